/-
  THE PURE LAW of FormPrints: every list of pairs is written as the document says; of the sizes that the bounded statement speaks of.
-/
import Derived.Test.YtgfnjdpbahecdaaPFpx6
import Derived.Test.YtgfnjdpbahecdaaFPrint
import Derived.Test.YtgfnjdpbahecdaaSpec03c
import Derived.Test.YtgfnjdpbahecdaaPlain
import Derived.Lib.LazyBuf
namespace Go.Proofs.Ytgfnjdpbahecdaa.Pure
open Go.RowKit Go.Proofs.YtgfnjdpbahecdaaW.PrintWords Go.Proofs.Ytgfnjdpbahecdaa.Plain Go.Proofs.Ytgfnjdpbahecdaa.Spec Go.Proofs.Ytgfnjdpbahecdaa.PFp
set_option linter.unusedSimpArgs false
set_option linter.unusedVariables false
theorem toList_data (s : ByteArray) : s.toList = s.data.toList := ByteArray.toList_eq s
theorem bs_toList (l : List UInt8) : (bs l).toList = l := by rw [toList_data, bs_data]
def n8 (l : List UInt8) : List Int := l.map fun b => (b.toNat : Int)
theorem n8_len (l : List UInt8) : (n8 l).length = l.length := List.length_map ..
theorem n8_snoc (l : List UInt8) (c : UInt8) : n8 l ++ [(c.toNat : Int)] = n8 (l ++ [c]) := by simp [n8]
theorem str_n8 (l : List UInt8) : strOfNums (n8 l) = bs l := Lib.Lz.strOfNums_map l
theorem bt_get (s : ByteArray) (i : Nat) (h : i < s.size) : bt s (i : Int) = (s[i].toNat : Int) := by
  unfold bt
  rw [dif_pos (by simpa using h)]
  rfl
theorem u8_lit (c : UInt8) (n : Nat) (h : c.toNat = n) : c = UInt8.ofNat n := by rw [← h, UInt8.ofNat_toNat]
def digitsB : ByteArray := ⟨#[48, 49, 50, 51, 52, 53, 54, 55, 56, 57, 65, 66, 67, 68, 69, 70]⟩
set_option maxRecDepth 100000 in
theorem plain_all : ∀ n : Fin 256, wicketref03_plain.f (n.val : Int) = some (plainB (UInt8.ofNat n.val)) := by decide +kernel
theorem plain_eq (c : UInt8) : wicketref03_plain.f (c.toNat : Int) = some (plainB c) := by
  have h := plain_all ⟨c.toNat, c.toNat_lt⟩
  rw [UInt8.ofNat_toNat] at h
  exact h
set_option maxRecDepth 100000 in
theorem digs_all : ∀ n : Fin 256, (Int.tdiv (n.val : Int) 16 % 256 < 16 ∧ 0 ≤ Int.tdiv (n.val : Int) 16 % 256 ∧ 0 ≤ Int.tmod (n.val : Int) 16 ∧ Int.tmod (n.val : Int) 16 < 16) ∧ bt digitsB (Int.tdiv (n.val : Int) 16 % 256) = ((hexD (n.val / 16)).toNat : Int) ∧ bt digitsB (Int.tmod (n.val : Int) 16) = ((hexD (n.val % 16)).toNat : Int) := by decide +kernel
theorem refesc_loop (s : ByteArray) (hs : s.size ≤ 1048576) : ∀ (m i : Nat), i + m = s.size →
    Ev (fun k => wicketref03_Escape.l0 k s (n8 (escL (s.data.toList.take i))) digitsB (i : Int)) (bs (escL s.data.toList)) := by
  intro m
  induction m with
  | zero =>
    intro i hi
    refine Ev.step (f := fun _ => some (bs (escL s.data.toList))) (fun k => ?_) (Ev.now _)
    simp only [wicketref03_Escape.l0]
    rw [if_neg (by omega), str_n8, List.take_of_length_le (by rw [data_len]; omega)]
  | succ m ih =>
    intro i hi
    have hlt : i < s.size := by omega
    have hbt := bt_get s i hlt
    have hpl := plain_eq s[i]
    have hdg := digs_all ⟨s[i].toNat, s[i].toNat_lt⟩
    have hel : (n8 (escL (s.data.toList.take i))).length ≤ 3 * 1048576 := by
      rw [n8_len]
      have h1 := escL_len (s.data.toList.take i)
      have h2 := List.length_take_le i s.data.toList
      omega
    have key := ih (i + 1) (by omega)
    rw [escL_take s i hlt] at key
    have hds : digitsB.size = 16 := rfl
    generalize s[i] = c at *
    refine Ev.step (fun k => ?_) key
    simp only [wicketref03_Escape.l0]
    rw [if_pos (by omega), if_pos (by omega), hbt, hpl, Option.bind_some, w64 (by omega) (by omega)]
    unfold escB
    by_cases h32 : c = 32
    · have hp : plainB c = false := by rw [h32]; decide
      have h32' : (c.toNat : Int) = 32 := by rw [h32]; rfl
      rw [hp, if_neg (by simp), if_pos h32', if_pos (by omega), if_pos h32, ← n8_snoc]
      rfl
    · have h32' : ¬ (c.toNat : Int) = 32 := fun e => h32 (u8_lit c 32 (by omega))
      rw [if_neg h32]
      cases hp : plainB c with
      | true =>
        rw [if_pos rfl, if_pos (by omega), if_pos rfl, ← n8_snoc]
        rfl
      | false =>
        obtain ⟨⟨g1, g2, g3, g4⟩, g5, g6⟩ := hdg
        simp only at g1 g2 g3 g4 g5 g6
        rw [if_neg (by simp), if_neg h32', if_pos (by omega), if_pos (by omega), if_pos (by omega), if_pos (by omega), Option.bind_some, if_pos (by simp; omega), if_neg (by simp), g5, g6]
        simp only [n8, List.map_append, List.map_cons, List.map_nil]
        rfl
def to61 (p : S37) : S45 := ⟨p.f0, p.f1⟩
theorem ours_ev (l : List S37) (hl : l.length ≤ 4000000000000) : Ev (fun k => wicketlaw03_ours.f k l) (l.map to61) := by
  have H : ∀ (m i : Nat), i + m = l.length → Ev (fun k => wicketlaw03_ours.l0 k l ((l.take i).map to61) (i : Int)) (l.map to61) := by
    intro m
    induction m with
    | zero =>
      intro i hi
      refine Ev.step (f := fun _ => some _) (fun k => ?_) (Ev.now _)
      simp only [wicketlaw03_ours.l0]
      rw [if_neg (by omega), List.take_of_length_le (by omega)]
    | succ m ih =>
      intro i hi
      have hlt : i < l.length := by omega
      have hal2 : ((l.take i).map to61).length = i := by rw [List.length_map, List.length_take]; omega
      have hrd : rd_T37 l (i : Int) = l[i] := by simp [rd_T37, hlt]
      refine Ev.step (fun k => ?_) (ih (i + 1) (by omega))
      simp only [wicketlaw03_ours.l0]
      rw [if_pos (by omega), if_pos (by omega), if_pos (by omega), hrd, w64 (by omega) (by omega), List.take_succ_eq_append_getElem hlt, List.map_append]
      rfl
  unfold wicketlaw03_ours.f
  exact H l.length 0 (by omega)
theorem sum_len {α : Type} (g : α → Nat) (hg : ∀ x, 1 ≤ g x) : ∀ l : List α, l.length ≤ (l.map g).sum
  | [] => Nat.zero_le _
  | x :: l => by
    have := sum_len g hg l
    have := hg x
    simp only [List.length_cons, List.map_cons, List.sum_cons]
    omega
theorem pairs_evJ (a : List S37) (hl : a.length ≤ 4000000000000) : Ev (fun k => wicketlaw03_pairs.f k a a) true := by
  have H : ∀ (m i : Nat), i + m = a.length → Ev (fun k => wicketlaw03_pairs.l0 k a a (i : Int)) true := by
    intro m
    induction m with
    | zero =>
      intro i hi
      refine Ev.step (f := fun _ => some true) (fun k => ?_) (Ev.now _)
      simp only [wicketlaw03_pairs.l0]
      rw [if_neg (by omega)]
    | succ m ih =>
      intro i hi
      refine Ev.step (fun k => ?_) (ih (i + 1) (by omega))
      simp only [wicketlaw03_pairs.l0]
      rw [if_pos (by omega), if_pos (by omega), if_pos (by omega), if_neg (by simp), w64 (by omega) (by omega)]
      rfl
  unfold wicketlaw03_pairs.f
  exact Ev.pos rfl (H a.length 0 (by omega))
theorem refesc_ev (s : ByteArray) (hs : s.size ≤ 1048576) : Ev (fun k => wicketref03_Escape.f k s) (bs (escL s.data.toList)) := by
  unfold wicketref03_Escape.f
  exact refesc_loop s hs s.size 0 (by omega)
theorem bs_append (a b : List UInt8) : bs a ++ bs b = bs (a ++ b) := by
  rw [← bs_of (bs a ++ bs b)]
  congr 1
  all_goals simp [bs]
theorem pair_len (p : S37) : (escL p.f0.data.toList).length ≤ 3 * p.f0.size ∧ (escL p.f1.data.toList).length ≤ 3 * p.f1.size := by
  have h0 := escL_len p.f0.data.toList
  have h1 := escL_len p.f1.data.toList
  rw [data_len] at h0 h1
  exact ⟨h0, h1⟩
theorem refprint_loop (l : List S37) (hl : sizeL l ≤ 1048576) : ∀ (m i : Nat), i + m = l.length → Ev (fun k => wicketref03_Print.l0 k (l.map to61) (bs (printL (l.take i))) (i : Int)) (bs (printL l)) := by
  have hal : (l.map to61).length = l.length := List.length_map ..
  have hln : l.length ≤ sizeL l := by
    have := sum_len (fun p : S37 => p.f0.size + p.f1.size + 1) (fun x => by omega) l
    exact this
  intro m
  induction m with
  | zero =>
    intro i hi
    refine Ev.step (f := fun _ => some (bs (printL l))) (fun k => ?_) (Ev.now _)
    simp only [wicketref03_Print.l0]
    rw [if_neg (by omega), List.take_of_length_le (by omega)]
  | succ m ih =>
    intro i hi
    have hlt : i < l.length := by omega
    have hst := sizeL_take l i hlt
    have hpl := printL_len (l.take i)
    have hrd : rd_T45 (l.map to61) (i : Int) = to61 l[i] := by simp [rd_T45, hlt]
    have key := ih (i + 1) (by omega)
    rw [List.take_succ_eq_append_getElem hlt] at key
    have he := pair_len l[i]
    generalize l[i] = p at *
    have e0 : Ev (fun k => wicketref03_Escape.f k (to61 p).f0) (bs (escL p.f0.data.toList)) := refesc_ev p.f0 (by omega)
    have e1 : Ev (fun k => wicketref03_Escape.f k (to61 p).f1) (bs (escL p.f1.data.toList)) := refesc_ev p.f1 (by omega)
    have z0 : (bs (escL p.f0.data.toList)).size ≤ 3 * p.f0.size := by rw [bs_size]; exact he.1
    have z1 : (bs (escL p.f1.data.toList)).size ≤ 3 * p.f1.size := by rw [bs_size]; exact he.2
    have zt : (bs (printL (l.take i))).size ≤ 3 * sizeL (l.take i) := by rw [bs_size]; exact hpl
    have s38 : (⟨#[38]⟩ : ByteArray) = bs [38] := rfl
    have s61 : (⟨#[61]⟩ : ByteArray) = bs [61] := rfl
    by_cases h0 : 0 < i
    · have hp : printL (l.take i ++ [p]) = printL (l.take i) ++ 38 :: pairB p := printL_snoc _ _ (fun e => by have := congrArg List.length e; rw [List.length_take, List.length_nil] at this; omega)
      rw [hp] at key
      refine Ev.step (f := fun k => (wicketref03_Escape.f k (to61 p).f0).bind fun t115 => (if ((bs (printL (l.take i))) ++ (⟨#[38]⟩ : ByteArray)).size + t115.size ≤ 9223372036854775807 then (if (((bs (printL (l.take i))) ++ (⟨#[38]⟩ : ByteArray)) ++ t115).size + 1 ≤ 9223372036854775807 then ((wicketref03_Escape.f k (to61 p).f1).bind fun t117 => (if ((((bs (printL (l.take i))) ++ (⟨#[38]⟩ : ByteArray)) ++ t115) ++ (⟨#[61]⟩ : ByteArray)).size + t117.size ≤ 9223372036854775807 then (wicketref03_Print.l0 k (l.map to61) (((((bs (printL (l.take i))) ++ (⟨#[38]⟩ : ByteArray)) ++ t115) ++ (⟨#[61]⟩ : ByteArray)) ++ t117) ((i + 1 : Nat) : Int)) else (none))) else (none)) else (none))) (fun k => ?_) ?_
      · simp only [wicketref03_Print.l0]
        rw [if_pos (by omega), if_pos (by omega), if_pos (by omega), if_pos (by omega), hrd, w64 (by omega) (by omega)]
        rfl
      · have a1 : ((bs (printL (l.take i))) ++ (⟨#[38]⟩ : ByteArray)).size = (bs (printL (l.take i))).size + 1 := by rw [ByteArray.size_append]; rfl
        have a2 : (((bs (printL (l.take i))) ++ (⟨#[38]⟩ : ByteArray)) ++ bs (escL p.f0.data.toList)).size = (bs (printL (l.take i))).size + 1 + (bs (escL p.f0.data.toList)).size := by rw [ByteArray.size_append, a1]
        have a3 : ((((bs (printL (l.take i))) ++ (⟨#[38]⟩ : ByteArray)) ++ bs (escL p.f0.data.toList)) ++ (⟨#[61]⟩ : ByteArray)).size = (bs (printL (l.take i))).size + 1 + (bs (escL p.f0.data.toList)).size + 1 := by rw [ByteArray.size_append, a2]; rfl
        refine Ev.bind e0 (Ev.pos (by rw [a1]; omega) (Ev.pos (by rw [a2]; omega) (Ev.bind e1 (Ev.pos (by rw [a3]; omega) ?_))))
        rw [s38, s61, bs_append, bs_append, bs_append, bs_append]
        have e : printL (l.take i) ++ [38] ++ escL p.f0.data.toList ++ [61] ++ escL p.f1.data.toList = printL (l.take i) ++ 38 :: pairB p := by simp [pairB]
        rw [e]
        exact key
    · obtain rfl : i = 0 := by omega
      have hp : printL (l.take 0 ++ [p]) = pairB p := by simp [printL]
      rw [hp] at key
      refine Ev.step (f := fun k => (wicketref03_Escape.f k (to61 p).f0).bind fun t119 => (if (bs (printL (l.take 0))).size + t119.size ≤ 9223372036854775807 then (if ((bs (printL (l.take 0))) ++ t119).size + 1 ≤ 9223372036854775807 then ((wicketref03_Escape.f k (to61 p).f1).bind fun t121 => (if (((bs (printL (l.take 0))) ++ t119) ++ (⟨#[61]⟩ : ByteArray)).size + t121.size ≤ 9223372036854775807 then (wicketref03_Print.l0 k (l.map to61) ((((bs (printL (l.take 0))) ++ t119) ++ (⟨#[61]⟩ : ByteArray)) ++ t121) ((0 + 1 : Nat) : Int)) else (none))) else (none)) else (none))) (fun k => ?_) ?_
      · simp only [wicketref03_Print.l0]
        rw [if_pos (by omega), if_neg (by omega), if_pos (by omega), hrd, w64 (by omega) (by omega)]
        rfl
      · have a2 : ((bs (printL (l.take 0))) ++ bs (escL p.f0.data.toList)).size = (bs (printL (l.take 0))).size + (bs (escL p.f0.data.toList)).size := by rw [ByteArray.size_append]
        have a3 : (((bs (printL (l.take 0))) ++ bs (escL p.f0.data.toList)) ++ (⟨#[61]⟩ : ByteArray)).size = (bs (printL (l.take 0))).size + (bs (escL p.f0.data.toList)).size + 1 := by rw [ByteArray.size_append, a2]; rfl
        refine Ev.bind e0 (Ev.pos (by omega) (Ev.pos (by rw [a2]; omega) (Ev.bind e1 (Ev.pos (by rw [a3]; omega) ?_))))
        rw [s61, bs_append, bs_append, bs_append]
        have e : printL (l.take 0) ++ escL p.f0.data.toList ++ [61] ++ escL p.f1.data.toList = pairB p := by simp [pairB, printL]
        rw [e]
        exact key
theorem sizeL_sum (l : List S37) : sizeL l ≤ (l.map fun y => ((y.f0.size + 1) + (y.f1.size + 1) + 1)).sum ∧ l.length ≤ (l.map fun y => ((y.f0.size + 1) + (y.f1.size + 1) + 1)).sum := by
  induction l with
  | nil => simp [sizeL]
  | cons p r ih =>
    unfold sizeL at ih ⊢
    simp only [List.map_cons, List.sum_cons, List.length_cons]
    omega
theorem FormPrints (l : List S37) (ok0 : l.length * 32 ≤ 140737488351232 ∧ ∀ y, y ∈ l → (y.f0.size ≤ 140737488351232) ∧ (y.f1.size ≤ 140737488351232))
    (hb : ((l.map fun y => ((y.f0.size + 1) + (y.f1.size + 1) + 1)).sum + 1) ≤ 1048576) : ∃ k, wicketlaw03_FormPrints.f k l = some true := by
  refine Ev.rounds ?_
  have hs := sizeL_sum l
  unfold wicketlaw03_FormPrints.f
  refine Ev.bind (Ev.now _) (Ev.pos (by rw [List.length_nil]; omega) (Ev.bind (Ev.now _) ?_))
  simp only [List.nil_append]
  have hp : urlform_Print.f l = some (bs (printL l)) := by
    unfold urlform_Print.f
    rw [if_pos (by omega)]
    rfl
  rw [hp]
  refine Ev.bind (Ev.now _) (Ev.bind (ours_ev l (by omega)) (Ev.bind (a := bs (printL l)) ?_ (Ev.pos rfl (Ev.bind (pairs_evJ l (by omega)) (Ev.now _)))))
  unfold wicketref03_Print.f
  exact refprint_loop l (by omega) l.length 0 (by omega)
end Go.Proofs.Ytgfnjdpbahecdaa.Pure
