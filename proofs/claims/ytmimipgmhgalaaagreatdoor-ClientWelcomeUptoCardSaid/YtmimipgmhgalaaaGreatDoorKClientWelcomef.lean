/-
  Part 6 of what the proof of ClientWelcome leans on: words of the print, walks of functions and plain laws; put together by pack.py, a program of this session.
-/
import Derived.Lib.LaidU8
import Derived.ScopeJumps
import Derived.WalkMore
import Derived.Test.YtmimipgmhgalaaaGreatDoorRows
import Derived.ProofKit
import Derived.WalkKit
import Derived.SizedLaws
import Derived.Test.YtmimipgmhgalaaaGreatDoorTie
import Derived.Lib.LaidTab
import Derived.Test.YtmimipgmhgalaaaGreatDoorKClientWelcomee
section
namespace Go.Proofs.YtmimipgmhgalaaaGreatDoor.Pure
open Go.RowKit Go.Proofs.YtmimipgmhgalaaaGreatDoorW.PrintWords Go.Proofs.YtmimipgmhgalaaaGreatDoor.Plain Go.Proofs.YtmimipgmhgalaaaGreatDoor.Spec Go.Proofs.YtmimipgmhgalaaaGreatDoor.PAll
set_option linter.unusedSimpArgs false
set_option linter.unusedVariables false
def foldO (name : ByteArray) : List S68 → ByteArray → Nat → ByteArray × Bool × Int
  | [], v, n => if n > 1 then (⟨#[]⟩, false, 34) else (v, v.toList != [], 0)
  | p :: r, v, n => if p.f0.toList = name.toList then foldO name r p.f1 (n + 1) else foldO name r v n
theorem one_ev (l : List S68) (hl : l.length ≤ 4000000000000) (name : ByteArray) : ∀ (m i n : Nat) (v : ByteArray), i + m = l.length → n ≤ i → Ev (fun k => urlform_One.l0 k name v (n : Int) l (l.length : Int) (i : Int)) (foldO name (l.drop i) v n) := by
  intro m
  induction m with
  | zero =>
    intro i n v hi hn
    rw [List.drop_eq_nil_of_le (by omega)]
    unfold foldO
    refine Ev.step (f := fun _ => some _) (fun k => ?_) (Ev.now _)
    simp only [urlform_One.l0]
    rw [if_neg (by omega)]
    by_cases h : n > 1
    · rw [if_pos h, if_pos (by omega)]
    · rw [if_neg h, if_neg (by omega)]
  | succ m ih =>
    intro i n v hi hn
    have hlt : i < l.length := by omega
    have hrd : rd_T68 l (i : Int) = l[i] := by simp [rd_T68, hlt]
    rw [drop_cons l i hlt]
    unfold foldO
    have ih1 := ih (i + 1)
    generalize l[i] = p at *
    by_cases h : p.f0.toList = name.toList
    · rw [if_pos h]
      refine Ev.step (fun k => ?_) (ih1 (n + 1) p.f1 (by omega) (by omega))
      simp only [urlform_One.l0]
      rw [if_pos (by omega), if_pos (by omega), if_pos (by omega), hrd, if_pos h, w64 (by omega) (by omega), w64 (by omega) (by omega)]
      rfl
    · rw [if_neg h]
      refine Ev.step (fun k => ?_) (ih1 n v (by omega) (by omega))
      simp only [urlform_One.l0]
      rw [if_pos (by omega), if_pos (by omega), if_pos (by omega), hrd, if_neg h, w64 (by omega) (by omega)]
      rfl
end Go.Proofs.YtmimipgmhgalaaaGreatDoor.Pure
end
section
namespace Go.Proofs.YtmimipgmhgalaaaGreatDoor.Pure
open Go.RowKit Go.Proofs.YtmimipgmhgalaaaGreatDoorW.PrintWords Go.Proofs.YtmimipgmhgalaaaGreatDoor.Plain Go.Proofs.YtmimipgmhgalaaaGreatDoor.Spec Go.Proofs.YtmimipgmhgalaaaGreatDoor.PAll
set_option linter.unusedSimpArgs false
set_option linter.unusedVariables false
def digitsB : ByteArray := ⟨#[48, 49, 50, 51, 52, 53, 54, 55, 56, 57, 65, 66, 67, 68, 69, 70]⟩
set_option maxRecDepth 100000 in
theorem plain_all : ∀ n : Fin 256, wicketref03_plain.f (n.val : Int) = some (plainB (UInt8.ofNat n.val)) := by decide +kernel
theorem plain_eq (c : UInt8) : wicketref03_plain.f (c.toNat : Int) = some (plainB c) := by
  have h := plain_all ⟨c.toNat, c.toNat_lt⟩
  rw [UInt8.ofNat_toNat] at h
  exact h
set_option maxRecDepth 100000 in
theorem digs_all : ∀ n : Fin 256, (Int.tdiv (n.val : Int) 16 % 256 < 16 ∧ 0 ≤ Int.tdiv (n.val : Int) 16 % 256 ∧ 0 ≤ Int.tmod (n.val : Int) 16 ∧ Int.tmod (n.val : Int) 16 < 16) ∧ bt digitsB (Int.tdiv (n.val : Int) 16 % 256) = ((hexD (n.val / 16)).toNat : Int) ∧ bt digitsB (Int.tmod (n.val : Int) 16) = ((hexD (n.val % 16)).toNat : Int) := by decide +kernel
theorem refesc_loop (s : ByteArray) (hs : s.size ≤ 1048576) : ∀ (m i : Nat), i + m = s.size →
    Ev (fun k => wicketref03_Escape.l0 k s (n8 (escL (s.data.toList.take i))) digitsB (i : Int)) (bs (escL s.data.toList)) := by
  intro m
  induction m with
  | zero =>
    intro i hi
    refine Ev.step (f := fun _ => some (bs (escL s.data.toList))) (fun k => ?_) (Ev.now _)
    simp only [wicketref03_Escape.l0]
    rw [if_neg (by omega), str_n8, List.take_of_length_le (by rw [data_len]; omega)]
  | succ m ih =>
    intro i hi
    have hlt : i < s.size := by omega
    have hbt := bt_get s i hlt
    have hpl := plain_eq s[i]
    have hdg := digs_all ⟨s[i].toNat, s[i].toNat_lt⟩
    have hel : (n8 (escL (s.data.toList.take i))).length ≤ 3 * 1048576 := by
      rw [n8_len]
      have h1 := escL_len (s.data.toList.take i)
      have h2 := List.length_take_le i s.data.toList
      omega
    have key := ih (i + 1) (by omega)
    rw [escL_take s i hlt] at key
    have hds : digitsB.size = 16 := rfl
    generalize s[i] = c at *
    refine Ev.step (fun k => ?_) key
    simp only [wicketref03_Escape.l0]
    rw [if_pos (by omega), if_pos (by omega), hbt, hpl, Option.bind_some, w64 (by omega) (by omega)]
    unfold escB
    by_cases h32 : c = 32
    · have hp : plainB c = false := by rw [h32]; decide
      have h32' : (c.toNat : Int) = 32 := by rw [h32]; rfl
      rw [hp, if_neg (by simp), if_pos h32', if_pos (by omega), if_pos h32, ← n8_snoc]
      rfl
    · have h32' : ¬ (c.toNat : Int) = 32 := fun e => h32 (u8_lit c 32 (by omega))
      rw [if_neg h32]
      cases hp : plainB c with
      | true =>
        rw [if_pos rfl, if_pos (by omega), if_pos rfl, ← n8_snoc]
        rfl
      | false =>
        obtain ⟨⟨g1, g2, g3, g4⟩, g5, g6⟩ := hdg
        simp only at g1 g2 g3 g4 g5 g6
        rw [if_neg (by simp), if_neg h32', if_pos (by omega), if_pos (by omega), if_pos (by omega), if_pos (by omega), Option.bind_some, if_pos (by simp; omega), if_neg (by simp), g5, g6]
        simp only [n8, List.map_append, List.map_cons, List.map_nil]
        rfl
theorem refesc_ev (s : ByteArray) (hs : s.size ≤ 1048576) : Ev (fun k => wicketref03_Escape.f k s) (bs (escL s.data.toList)) := by
  unfold wicketref03_Escape.f
  exact refesc_loop s hs s.size 0 (by omega)
theorem pair_len (p : S68) : (escL p.f0.data.toList).length ≤ 3 * p.f0.size ∧ (escL p.f1.data.toList).length ≤ 3 * p.f1.size := by
  have h0 := escL_len p.f0.data.toList
  have h1 := escL_len p.f1.data.toList
  rw [data_len] at h0 h1
  exact ⟨h0, h1⟩
end Go.Proofs.YtmimipgmhgalaaaGreatDoor.Pure
end
section
namespace Go.Proofs.YtmimipgmhgalaaaGreatDoor.Pure
open Go.RowKit Go.Proofs.YtmimipgmhgalaaaGreatDoorW.PrintWords Go.Proofs.YtmimipgmhgalaaaGreatDoor.Plain Go.Proofs.YtmimipgmhgalaaaGreatDoor.PAll
set_option linter.unusedSimpArgs false
set_option linter.unusedVariables false
abbrev CC := S40
abbrev CR := S43
def toR (x : CC) : CR := ⟨x.f0, x.f1, x.f2, x.f3, x.f4, x.f5⟩
def SmallC (l : List CC) : Prop := l.length ≤ 1599289640400 ∧ ∀ x ∈ l, x.f5.length ≤ 4000000000000
theorem ours_q (i s : ByteArray) (gr : Int) (pg : Bool) (u : ByteArray) (sc : List ByteArray) (h : sc.length ≤ 4000000000000) : wicketlaw11_ours.f i s gr pg u sc = some (i, s, gr, pg, u, sc) := by
  unfold wicketlaw11_ours.f
  rw [Option.bind_some, if_pos (by simp; omega)]
  rfl
theorem theirs_q (i s : ByteArray) (gr : Int) (pg : Bool) (u : ByteArray) (sc : List ByteArray) (h : sc.length ≤ 4000000000000) : wicketlaw11_theirs.f i s gr pg u sc = some (i, s, gr, pg, u, sc) := by
  unfold wicketlaw11_theirs.f
  rw [Option.bind_some, if_pos (by simp; omega)]
  rfl
theorem rdC (l : List CC) (i : Nat) (h : i < l.length) : rd_T40 l (i : Int) = l[i] := by
  unfold rd_T40; rw [Int.toNat_natCast, List.getD_eq_getElem?_getD, List.getElem?_eq_getElem h]; rfl
theorem rdR (l : List CR) (i : Nat) (h : i < l.length) : rd_T43 l (i : Int) = l[i] := by
  unfold rd_T43; rw [Int.toNat_natCast, List.getD_eq_getElem?_getD, List.getElem?_eq_getElem h]; rfl
theorem take_snoc {α : Type} (l : List α) (i : Nat) (h : i < l.length) : l.take i ++ [l[i]] = l.take (i + 1) := by rw [List.take_add_one, List.getElem?_eq_getElem h]; rfl
theorem copied_ev (l : List CC) (hl : SmallC l) : Ev (fun k => wicketlaw11_copied.f k l) l := by
  have h : ∀ (m i : Nat), i + m = l.length → Ev (fun k => wicketlaw11_copied.l0 k l (l.take i) (i : Int)) l := by
    intro m
    induction m with
    | zero =>
      intro i hi
      refine Ev.step (f := fun _ => some l) (fun k => ?_) (Ev.now _)
      simp only [wicketlaw11_copied.l0]; rw [if_neg (by omega), List.take_of_length_le (by omega)]
    | succ m ih =>
      intro i hi
      have hlt : i < l.length := by omega
      have h1 := hl.1
      refine Ev.step (f := fun k => wicketlaw11_copied.l0 k l (l.take (i + 1)) ((i + 1 : Nat) : Int)) (fun k => ?_) (ih (i + 1) (by omega))
      simp only [wicketlaw11_copied.l0]
      rw [if_pos (by omega), if_pos (by omega), rdC _ _ hlt, ours_q _ _ _ _ _ _ (hl.2 _ (List.getElem_mem hlt)), Option.bind_some, theirs_q _ _ _ _ _ _ (hl.2 _ (List.getElem_mem hlt)), Option.bind_some, if_pos (by rw [List.length_take]; omega), w64 (by omega) (by omega), ← take_snoc l i hlt]
      rfl
  exact h l.length 0 (by omega)
theorem all_ev (l : List CC) (hl : SmallC l) : Ev (fun k => wicketlaw11_all.f k l) (l.map toR) := by
  have h : ∀ (m i : Nat), i + m = l.length → Ev (fun k => wicketlaw11_all.l0 k l ((l.take i).map toR) (i : Int)) (l.map toR) := by
    intro m
    induction m with
    | zero =>
      intro i hi
      refine Ev.step (f := fun _ => some (l.map toR)) (fun k => ?_) (Ev.now _)
      simp only [wicketlaw11_all.l0]; rw [if_neg (by omega), List.take_of_length_le (by omega)]
    | succ m ih =>
      intro i hi
      have hlt : i < l.length := by omega
      have h1 := hl.1
      refine Ev.step (f := fun k => wicketlaw11_all.l0 k l ((l.take (i + 1)).map toR) ((i + 1 : Nat) : Int)) (fun k => ?_) (ih (i + 1) (by omega))
      simp only [wicketlaw11_all.l0]
      rw [if_pos (by omega), if_pos (by omega), rdC _ _ hlt, ours_q _ _ _ _ _ _ (hl.2 _ (List.getElem_mem hlt)), Option.bind_some, if_pos (by rw [List.length_map, List.length_take]; omega), w64 (by omega) (by omega), ← take_snoc l i hlt, List.map_append]
      rfl
  exact h l.length 0 (by omega)
theorem same_ev (i s : ByteArray) (gr : Int) (pg : Bool) (u : ByteArray) (sc : List ByteArray) (hs : sc.length ≤ 4000000000000) : Ev (fun k => wicketlaw11_same.f k i s gr pg u sc i s gr pg u sc) true := by
  have h : ∀ (m j : Nat), j + m = sc.length → Ev (fun k => wicketlaw11_same.l0 k (j : Int) i s gr pg u sc i s gr pg u sc) true := by
    intro m
    induction m with
    | zero =>
      intro j hj
      refine Ev.step (f := fun _ => some true) (fun k => ?_) (Ev.now _)
      simp only [wicketlaw11_same.l0]; rw [if_neg (by omega)]
    | succ m ih =>
      intro j hj
      have hlt : j < sc.length := by omega
      refine Ev.step (f := fun k => wicketlaw11_same.l0 k ((j + 1 : Nat) : Int) i s gr pg u sc i s gr pg u sc) (fun k => ?_) (ih (j + 1) (by omega))
      simp only [wicketlaw11_same.l0]
      rw [if_pos (by omega), if_pos (by omega), if_pos (by omega), if_true, w64 (by omega) (by omega)]
      rfl
  unfold wicketlaw11_same.f
  simp only [if_true, bne_self_eq_false, if_false, Bool.false_eq_true]
  refine Ev.step (f := fun k => wicketlaw11_same.l0 k (0 : Int) i s gr pg u sc i s gr pg u sc) (fun k => ?_) (h sc.length 0 (by omega))
  simp only [wicketlaw11_same.j0, Bool.false_eq_true, if_false]
def zeroC : CC := ⟨⟨#[]⟩, ⟨#[]⟩, 0, false, ⟨#[]⟩, []⟩
def foundC (a : ByteArray) : List CC → CC × Bool
  | [] => (zeroC, false)
  | x :: r => if x.f0.toList = a.toList then (x, true) else foundC a r
theorem foundC_small (a : ByteArray) : ∀ l : List CC, (∀ x ∈ l, x.f5.length ≤ 4000000000000) → (foundC a l).1.f5.length ≤ 4000000000000
  | [], _ => by simp [foundC, zeroC]
  | x :: r, h => by
    unfold foundC
    split
    · exact h x (by simp)
    · exact foundC_small a r (fun y hy => h y (by simp [hy]))
theorem find_ev (l : List CC) (hl : SmallC l) (a : ByteArray) : Ev (fun k => client_Find.f k l a) ((foundC a l).1.f0, (foundC a l).1.f1, (foundC a l).1.f2, (foundC a l).1.f3, (foundC a l).1.f4, (foundC a l).1.f5, (foundC a l).2) := by
  have h : ∀ (m i : Nat), i + m = l.length → Ev (fun k => client_Find.l0 k a l (l.length : Int) (i : Int)) ((foundC a (l.drop i)).1.f0, (foundC a (l.drop i)).1.f1, (foundC a (l.drop i)).1.f2, (foundC a (l.drop i)).1.f3, (foundC a (l.drop i)).1.f4, (foundC a (l.drop i)).1.f5, (foundC a (l.drop i)).2) := by
    intro m
    induction m with
    | zero =>
      intro i hi
      refine Ev.step (f := fun _ => some _) (fun k => ?_) (Ev.now _)
      simp only [client_Find.l0]; rw [if_neg (by omega), List.drop_eq_nil_of_le (by omega)]; rfl
    | succ m ih =>
      intro i hi
      have hlt : i < l.length := by omega
      have h1 := hl.1
      have h2 := hl.2 _ (List.getElem_mem hlt)
      have e : l.drop i = l[i] :: l.drop (i + 1) := List.drop_eq_getElem_cons hlt
      by_cases hx : (l[i]).f0.toList = a.toList
      · refine Ev.step (f := fun _ => some _) (fun k => ?_) (Ev.now _)
        simp only [client_Find.l0]
        rw [if_pos (by omega), if_pos (by omega), if_pos (by omega), rdC _ _ hlt, if_pos hx, e]
        unfold client_copied.f slices_Clone_string_string.f
        rw [if_pos (by omega)]
        simp only [foundC, if_pos hx]
        rfl
      · have hn := ih (i + 1) (by omega)
        refine Ev.step (f := fun k => client_Find.l0 k a l (l.length : Int) ((i + 1 : Nat) : Int)) (fun k => ?_) ?_
        · simp only [client_Find.l0]
          rw [if_pos (by omega), if_pos (by omega), if_pos (by omega), rdC _ _ hlt, if_neg hx, w64 (by omega) (by omega)]
          rfl
        · rw [e]
          simp only [foundC, if_neg hx]
          exact hn
  exact h l.length 0 (by omega)
theorem rfind_ev (l : List CC) (hl : SmallC l) (a : ByteArray) : Ev (fun k => wicketref11_Find.f k (l.map toR) a) ((foundC a l).1.f0, (foundC a l).1.f1, (foundC a l).1.f2, (foundC a l).1.f3, (foundC a l).1.f4, (foundC a l).1.f5, (foundC a l).2) := by
  have h : ∀ (m i : Nat), i + m = l.length → Ev (fun k => wicketref11_Find.l0 k (l.map toR) a (i : Int)) ((foundC a (l.drop i)).1.f0, (foundC a (l.drop i)).1.f1, (foundC a (l.drop i)).1.f2, (foundC a (l.drop i)).1.f3, (foundC a (l.drop i)).1.f4, (foundC a (l.drop i)).1.f5, (foundC a (l.drop i)).2) := by
    intro m
    induction m with
    | zero =>
      intro i hi
      refine Ev.step (f := fun _ => some _) (fun k => ?_) (Ev.now _)
      simp only [wicketref11_Find.l0]; rw [if_neg (by rw [List.length_map]; omega), List.drop_eq_nil_of_le (by omega)]; rfl
    | succ m ih =>
      intro i hi
      have hlt : i < l.length := by omega
      have h1 := hl.1
      have e : l.drop i = l[i] :: l.drop (i + 1) := List.drop_eq_getElem_cons hlt
      have hr : rd_T43 (l.map toR) (i : Int) = toR l[i] := by rw [rdR _ _ (by rw [List.length_map]; omega), List.getElem_map]
      by_cases hx : (l[i]).f0.toList = a.toList
      · refine Ev.step (f := fun _ => some _) (fun k => ?_) (Ev.now _)
        simp only [wicketref11_Find.l0]
        rw [if_pos (by rw [List.length_map]; omega), if_pos (by omega), hr, if_pos (show (toR l[i]).f0.toList = a.toList from hx), e]
        simp only [foundC, if_pos hx]
        rfl
      · have hn := ih (i + 1) (by omega)
        refine Ev.step (f := fun k => wicketref11_Find.l0 k (l.map toR) a ((i + 1 : Nat) : Int)) (fun k => ?_) ?_
        · simp only [wicketref11_Find.l0]
          rw [if_pos (by rw [List.length_map]; omega), if_pos (by omega), hr, if_neg (show ¬ (toR l[i]).f0.toList = a.toList from hx), w64 (by omega) (by omega)]
          rfl
        · rw [e]
          simp only [foundC, if_neg hx]
          exact hn
  exact h l.length 0 (by omega)
def weightC (y : CC) : Nat := ((y.f0.size + 1) + (y.f1.size + 1) + 1 + 1 + (y.f4.size + 1) + ((y.f5.map fun y => (y.size + 1)).sum + 1) + 1)
theorem sum_names (l : List ByteArray) : l.length ≤ (l.map fun y => (y.size + 1)).sum := by
  induction l with
  | nil => simp
  | cons x r ih => simp only [List.map_cons, List.sum_cons, List.length_cons]; omega
theorem weight_ge (x : CC) : x.f5.length + 1 ≤ weightC x := by
  have := sum_names x.f5
  unfold weightC
  omega
theorem weight_mem (l : List CC) : l.length ≤ (l.map weightC).sum ∧ ∀ x ∈ l, weightC x ≤ (l.map weightC).sum := by
  induction l with
  | nil => simp
  | cons x r ih =>
    simp only [List.map_cons, List.sum_cons, List.length_cons]
    refine ⟨by have := ih.1; have := weight_ge x; omega, fun y hy => ?_⟩
    rcases List.mem_cons.1 hy with rfl | hy
    · omega
    · have := ih.2 y hy; omega
theorem smallC_of (l : List CC) (n : Nat) (h : (l.map weightC).sum ≤ n) (hn : n ≤ 1048576) : SmallC l := by
  have h1 := weight_mem l
  refine ⟨by have := h1.1; omega, fun x hx => ?_⟩
  have h2 := h1.2 x hx
  have h3 := weight_ge x
  omega
end Go.Proofs.YtmimipgmhgalaaaGreatDoor.Pure
end
section
namespace Go.Proofs.YtmimipgmhgalaaaGreatDoor.Pure
open Go.RowKit Go.Proofs.YtmimipgmhgalaaaGreatDoorW.PrintWords Go.Proofs.YtmimipgmhgalaaaGreatDoor.Plain Go.Proofs.YtmimipgmhgalaaaGreatDoor.PAll Go.Proofs.YtmimipgmhgalaaaGreatDoor.Spec Go.Proofs.YtmimipgmhgalaaaGreatDoor.Sha
set_option linter.unusedSimpArgs false
set_option linter.unusedVariables false
set_option maxRecDepth 100000 in
theorem ch_all : ∀ v : Fin 64, okc (chB v.val).toNat ∧ v6 (chB v.val).toNat = v.val ∧ chB v.val ≠ 61 ∧ chB v.val ≠ 32 := by decide +kernel
set_option maxRecDepth 100000 in
theorem esc_colon : ∀ n : Fin 256, ∀ b ∈ escB (UInt8.ofNat n.val), b ≠ 58 := by decide +kernel
theorem esc_no_colon (l : List UInt8) : 58 ∉ escL l := by
  intro h
  unfold escL at h
  obtain ⟨c, _, hc⟩ := List.mem_flatMap.1 h
  have a := esc_colon ⟨c.toNat, c.toNat_lt⟩
  simp only [UInt8.ofNat_toNat] at a
  exact a _ hc rfl
theorem b64_six : ∀ p : List Nat, ∃ k, k ≤ 2 ∧ b64L p = (six p).map chB ++ List.replicate k 61 ∧ (b64L p).length % 4 = 0
  | [] => ⟨0, by omega, rfl, rfl⟩
  | [a] => ⟨2, by omega, by simp [b64L, six], by simp [b64L]⟩
  | [a, b] => ⟨1, by omega, by simp [b64L, six], by simp [b64L]⟩
  | a :: b :: c :: r => by
    obtain ⟨k, h1, h2, h3⟩ := b64_six r
    refine ⟨k, h1, ?_, ?_⟩
    · simp only [b64L, six, List.map_cons, List.cons_append, h2]
    · simp only [b64L, List.length_cons]; omega
theorem b64_bare (p : List Nat) (h : Lt 256 p) : ∃ k, Bare (b64L p) ((six p).map chB) k := by
  obtain ⟨k, h1, h2, h3⟩ := b64_six p
  refine ⟨k, h2, h1, fun _ => ?_⟩
  rcases List.eq_nil_or_concat ((six p).map chB) with h4 | ⟨q, y, h4⟩
  · exact .inl h4
  · rw [List.concat_eq_append] at h4
    refine .inr ⟨q, y, h4, ?_⟩
    have hy : y ∈ (six p).map chB := by rw [h4]; simp
    obtain ⟨v, hv, rfl⟩ := List.mem_map.1 hy
    exact (ch_all ⟨v, six_lt p h v hv⟩).2.2.1
theorem b64_head (p : List Nat) (h : Lt 256 p) : (b64L p).head? ≠ some 32 := by
  obtain ⟨k, h1, h2, h3⟩ := b64_six p
  have h4 := six_lt p h
  rw [h2]
  intro hc
  cases hs : six p with
  | nil =>
    rw [hs, List.map_nil, List.nil_append] at hc
    cases k with
    | zero => cases hc
    | succ k => rw [List.replicate_succ] at hc; exact absurd (Option.some.inj hc) (by decide)
  | cons v r =>
    rw [hs] at hc h4
    exact (ch_all ⟨v, h4 v (by simp)⟩).2.2.2 (Option.some.inj hc)
theorem b64_dec (p : List Nat) (h : Lt 256 p) : decB (nN ((six p).map chB)) = some p := by
  have e : nN ((six p).map chB) = (six p).map fun v => (chB v).toNat := by unfold nN; rw [List.map_map]; rfl
  have hs := six_lt p h
  have e2 : ((six p).map fun v => (chB v).toNat).map v6 = six p := by
    rw [List.map_map]
    have : (six p).map (v6 ∘ fun v => (chB v).toNat) = (six p).map id := List.map_congr_left (fun v hv => (ch_all ⟨v, hs v hv⟩).2.1)
    rw [this, List.map_id]
  unfold decB
  rw [e, if_pos, e2, une_six p h]
  refine ⟨fun c hc => ?_, ?_, ?_⟩
  · obtain ⟨v, hv, rfl⟩ := List.mem_map.1 hc
    exact (ch_all ⟨v, hs v hv⟩).1
  · rw [List.length_map]; exact six_len p
  · rw [e2, une_six p h]
theorem strN_sN (U : ByteArray) : strOfNums (toI (sN U)) = U := by
  apply ba_ext
  unfold strOfNums toI sN
  simp only [List.map_map]
  have : U.data.toList.map ((fun x : Int => UInt8.ofNat x.toNat) ∘ (fun x : Nat => (Int.ofNat x : Int)) ∘ UInt8.toNat) = U.data.toList.map id := List.map_congr_left (fun c _ => by simp)
  first
    | (rw [this, List.map_id])
    | simp
theorem common_b64 (U : ByteArray) (h : (bs (b64L (sN U))).size ≤ 65536) : Ev (fun k => client_common.f k (bs (b64L (sN U)))) (U, true) ∧ U.size ≤ 65536 := by
  obtain ⟨j, hj⟩ := b64_bare (sN U) (sN_all U)
  obtain ⟨k, h1, h2, h3⟩ := b64_six (sN U)
  obtain ⟨x, ok, g1, g2, g3⟩ := common_ev h (by rw [bs_data]; exact hj) (by rw [bs_size]; exact h3)
  rw [b64_dec _ (sN_all U)] at g2
  obtain ⟨rfl, rfl⟩ := g2
  rw [strN_sN] at g1 g3
  exact ⟨g1, g3⟩
theorem said_esc (a b : ByteArray) : saidP (bs (escL a.data.toList) ++ (⟨#[58]⟩ : ByteArray) ++ bs (escL b.data.toList)).data.toList = (a, b, 0) := by
  have e : (bs (escL a.data.toList) ++ (⟨#[58]⟩ : ByteArray) ++ bs (escL b.data.toList)).data.toList = escL a.data.toList ++ 58 :: escL b.data.toList := by
    rw [ByteArray.data_append, ByteArray.data_append, Array.toList_append, Array.toList_append, bs_data, bs_data, List.append_assoc]
    rfl
  rw [e]
  unfold saidP
  rw [cutL_hit 58 _ _ (esc_no_colon _)]
  simp only [unesc_esc, List.nil_append]
  rw [if_pos ⟨trivial, trivial, trivial⟩, bs_of, bs_of]
theorem trim_sp : ∀ (sp t : List UInt8), (∀ c ∈ sp, c = 32) → t.head? ≠ some 32 → Lib.trimLeftB (sp ++ t) 32 = t
  | [], t, _, ht => by
    show t.dropWhile (· == 32) = t
    cases t with
    | nil => rfl
    | cons y r =>
      have : (y == 32) = false := by
        rw [beq_eq_false_iff_ne]
        intro h
        exact ht (by rw [h]; rfl)
      rw [List.dropWhile_cons, this]
      rfl
  | c :: sp, t, hs, ht => by
    have ih := trim_sp sp t (fun c hc => hs c (by simp [hc])) ht
    obtain rfl := hs c (by simp)
    show ((32 : UInt8) :: (sp ++ t)).dropWhile (· == 32) = t
    rw [List.dropWhile_cons]
    exact ih
theorem basic_read (h : ByteArray) (five sp t : List UInt8) (hh : h.data.toList = five ++ 32 :: (sp ++ t)) (h5 : five.length = 5) (hsp : ∀ c ∈ sp, c = 32) (ht : t.head? ≠ some 32) (hE : Lib.equalFold five [98, 97, 115, 105, 99] = true) (hA : asciiS (h.extract 0 5) = true)
    (hs : h.size ≤ 1024) (x : ByteArray) (hx : x.size ≤ 65536) (hc : Ev (fun k => client_common.f k (bs t)) (x, true)) : Ev (fun k => client_Basic.f k h) (saidP x.data.toList) := by
  have hl : h.data.toList.length = h.size := by simp
  have hz : h.size = 5 + (1 + (sp.length + t.length)) := by rw [← hl, hh, List.length_append, List.length_cons, List.length_append, h5]; omega
  have hx5 : (h.extract 0 5).data.toList = five := by rw [Lib.extract_data, hh]; exact List.take_left' h5
  have hd5 : h.data.toList.drop 5 = 32 :: (sp ++ t) := by rw [hh]; exact List.drop_left' h5
  have b5 := bt_drop (i := 5) hd5
  have hEF : strings_EqualFold.f (h.extract 0 5) WB = some true := by
    unfold strings_EqualFold.f
    rw [if_pos ⟨by have : (h.extract 0 5).size = (h.extract 0 5).data.toList.length := by simp
                   rw [this, hx5, h5]; decide, hA, by decide⟩, hx5]
    exact congrArg some hE
  have hT : strings_TrimLeft.f (h.extract 5 h.size) (⟨#[32]⟩ : ByteArray) = some (bs t) := by
    have e : (h.extract 5 h.size).data.toList = (32 :: sp) ++ t := by
      rw [Lib.extract_data, List.take_of_length_le (by rw [List.length_drop]; omega), hd5]; rfl
    unfold strings_TrimLeft.f
    rw [if_pos ⟨rfl, by decide⟩, e]
    show some (⟨(Lib.trimLeftB ((32 :: sp) ++ t) 32).toArray⟩ : ByteArray) = _
    rw [trim_sp (32 :: sp) t (fun c hc => by rcases List.mem_cons.1 hc with h | h; exact h; exact hsp c h) ht]
    rfl
  unfold client_Basic.f
  refine Ev.neg (by omega) (Ev.neg (by omega) (Ev.pos (by omega) (Ev.pos (by omega) (Ev.bind (Ev.congr (fun _ => hEF) (Ev.now _)) (Ev.pos rfl (Ev.pos (by omega) ?_))))))
  rw [show bt h 5 = ((32 : UInt8).toNat : Int) from b5.2.1, show (((32 : UInt8).toNat : Int) != 32) = false from rfl]
  refine Ev.step (f := fun k => (client_common.f k (bs t)).bind fun bt211 => ((strings_Cut.f bt211.1 (⟨#[58]⟩ : ByteArray)).bind fun bt213 => ((urlform_Unescape.f bt213.1).bind fun bt216 => ((urlform_Unescape.f bt213.2.1).bind fun bt219 => (if bt211.2 = true then (if bt213.2.2 = true then (if bt216.2.1 = 0 then (if bt219.2.1 = 0 then (some (bt216.1, bt219.1, 0)) else (some ((⟨#[]⟩ : ByteArray), (⟨#[]⟩ : ByteArray), 113))) else (some ((⟨#[]⟩ : ByteArray), (⟨#[]⟩ : ByteArray), 113))) else (some ((⟨#[]⟩ : ByteArray), (⟨#[]⟩ : ByteArray), 113))) else (some ((⟨#[]⟩ : ByteArray), (⟨#[]⟩ : ByteArray), 113))))))) (fun k => ?_) ?_
  · simp only [client_Basic.j0, Bool.false_eq_true, if_false]
    rw [if_pos (by omega), hT, Option.bind_some]
  · exact Ev.bind hc (Ev.congr (fun _ => tailP x true hx) (Ev.eq (Ev.now _) (if_pos rfl)))
theorem basic_head (five sp : List UInt8) (h5 : five.length = 5) (hsp : ∀ c ∈ sp, c = 32) (hE : Lib.equalFold five [98, 97, 115, 105, 99] = true) (hA : asciiS (bs five) = true) (a b h : ByteArray)
    (hh : h = bs (five ++ 32 :: sp) ++ bs (b64L (sN (bs (escL a.data.toList) ++ (⟨#[58]⟩ : ByteArray) ++ bs (escL b.data.toList))))) (hs : h.size ≤ 1024) : Ev (fun k => client_Basic.f k h) (a, b, 0) ∧ asciiS (h.extract 0 5) = true ∧ b.size ≤ 65536 := by
  generalize hU : bs (escL a.data.toList) ++ (⟨#[58]⟩ : ByteArray) ++ bs (escL b.data.toList) = U at hh
  have hd : h.data.toList = five ++ 32 :: (sp ++ b64L (sN U)) := by
    rw [hh, ByteArray.data_append, Array.toList_append, bs_data, bs_data, List.append_assoc]
    rfl
  have hx5 : h.extract 0 5 = bs five := by
    apply ba_ext
    rw [Lib.extract_data, hd, bs_data]
    exact List.take_left' h5
  have hz : (bs (b64L (sN U))).size ≤ 65536 := by
    rw [hh, ByteArray.size_append] at hs
    omega
  obtain ⟨g1, g2⟩ := common_b64 U hz
  have hsz := (saidP_sz U g2).2
  rw [← hU, said_esc] at hsz
  refine ⟨?_, by rw [hx5]; exact hA, hsz⟩
  have := basic_read h five sp (b64L (sN U)) hd h5 hsp (b64_head _ (sN_all U)) hE (by rw [hx5]; exact hA) hs U g2 g1
  rw [← hU, said_esc] at this
  exact this
end Go.Proofs.YtmimipgmhgalaaaGreatDoor.Pure
end
section
namespace Go.Proofs.YtmimipgmhgalaaaGreatDoor.PAll
open Go.RowKit Go.Proofs.YtmimipgmhgalaaaGreatDoorW.PrintWords
set_option linter.unusedVariables false
set_option linter.unusedSimpArgs false
set_option maxRecDepth 100000 in
set_option maxHeartbeats 1000000 in
theorem sf_low (x y : Nat) (W : World) (hx : x < 128) (hy : y < 65536) (h : W.cell? ⟨0, x, none⟩ = some (.int .u16 (y : Int))) : Calls Tryz.prog 95 #[.int .i32 (x : Int)] W fun e w' => e = .returned (.int .i32 (y : Int)) ∧ w' = W := by
  go_enter Tryz.func95, Tryz.ntmps95
  have c1 : ((x : Int) < 0) = False := eq_false (by omega)
  have c2 : ((x : Int) > 1114111) = False := eq_false (by omega)
  have c3 : ((x : Int) < 128) = True := eq_true (by omega)
  go_wp2
  go_ret
  exact ⟨rfl, rfl⟩
set_option maxRecDepth 100000 in
set_option maxHeartbeats 1000000 in
theorem sf_383 (b o cap : Nat) (sp : Option Nat) (W : World) (h0 : W.cell? ⟨1, 0, none⟩ = some (.slice (some ⟨b, o, sp⟩) 94 cap)) (h47 : W.cell? ⟨b, o + 94, none⟩ = some (.int .u16 966)) (h23 : W.cell? ⟨b, o + 46, none⟩ = some (.int .u16 837)) (h11 : W.cell? ⟨b, o + 22, none⟩ = some (.int .u16 452)) (h5 : W.cell? ⟨b, o + 10, none⟩ = some (.int .u16 197))
    (h8 : W.cell? ⟨b, o + 16, none⟩ = some (.int .u16 304)) (h10 : W.cell? ⟨b, o + 20, none⟩ = some (.int .u16 383)) (h9 : W.cell? ⟨b, o + 18, none⟩ = some (.int .u16 305)) (h10b : W.cell? ⟨b, o + 20 + 1, none⟩ = some (.int .u16 83)) : Calls Tryz.prog 95 #[.int .i32 383] W fun e w' => e = .returned (.int .i32 83) ∧ w' = W := by
  go_enter Tryz.func95, Tryz.ntmps95
  go_wp2
  refine wp_loop_rounds 8 ?_
  rw [rounds_succ]
  go_wp2
  rw [rounds_succ]
  go_wp2
  rw [rounds_succ]
  go_wp2
  rw [rounds_succ]
  go_wp2
  rw [rounds_succ]
  go_wp2
  rw [rounds_succ]
  go_wp2
  rw [rounds_succ]
  go_wp2
  rw [rounds_succ]
  go_wp2
  go_ret
  exact ⟨rfl, rfl⟩
abbrev WBas0 : ByteArray := ⟨#[98, 97, 115, 105, 99]⟩
theorem or_u8 (a b : Nat) (ha : a < 256) (hb : b < 256) : bits .or .u8 (a : Int) (b : Int) = ((a ||| b : Nat) : Int) := (bits_nat .u8 8 (by decide) wraps_u8 a b ha hb).2
theorem or_low (a b : Nat) (ha : a < 256) (hb : b < 256) (h : bits .or .u8 (a : Int) (b : Int) < 128) : a < 128 := by
  rw [or_u8 a b ha hb] at h
  have := Nat.left_le_or (n := a) (m := b)
  omega
theorem or_high (a b : Nat) (ha : a < 256) (hb : b < 128) (h : 128 ≤ bits .or .u8 (a : Int) (b : Int)) : 128 ≤ a := by
  rw [or_u8 a b ha (by omega)] at h
  apply Classical.byContradiction
  intro hn
  have := Nat.or_lt_two_pow (x := a) (y := b) (n := 7) (by omega) (by omega)
  omega
theorem getD_at (s : ByteArray) (i : Nat) (h : i < s.size) : s.data.toList.getD i 0 = s[i]'h := by rw [List.getD_eq_getElem?_getD, List.getElem?_eq_getElem (by simpa using h)]; rfl
theorem WBas_low : ∀ i : Nat, i < 5 → (WBas0.data.toList.getD i 0).toNat < 128 := by decide
def ascT (j : Nat) : Nat := if j = 107 then 8490 else if j = 115 then 383 else if 65 ≤ j ∧ j ≤ 90 then j + 32 else if 97 ≤ j ∧ j ≤ 122 then j - 32 else j
structure FoldT (W : World) : Prop where
  asc : ∀ j, j < 128 → W.cell? ⟨0, j, none⟩ = some (.int .u16 (ascT j : Int))
  orb : ∃ b o cap sp, W.cell? ⟨1, 0, none⟩ = some (.slice (some ⟨b, o, sp⟩) 94 cap) ∧ W.cell? ⟨b, o + 94, none⟩ = some (.int .u16 966) ∧ W.cell? ⟨b, o + 46, none⟩ = some (.int .u16 837) ∧ W.cell? ⟨b, o + 22, none⟩ = some (.int .u16 452) ∧ W.cell? ⟨b, o + 10, none⟩ = some (.int .u16 197) ∧
    W.cell? ⟨b, o + 16, none⟩ = some (.int .u16 304) ∧ W.cell? ⟨b, o + 20, none⟩ = some (.int .u16 383) ∧ W.cell? ⟨b, o + 18, none⟩ = some (.int .u16 305) ∧ W.cell? ⟨b, o + 20 + 1, none⟩ = some (.int .u16 83)
theorem FoldT.below {w W : World} (h : FoldT w) (hb : Below w.heap.size w W) : FoldT W := by
  obtain ⟨h1, b, o, cap, sp, h2, h3, h4, h5, h6, h7, h8, h9, h10⟩ := h
  exact ⟨fun j hj => pw_cell_below hb (h1 j hj), b, o, cap, sp, pw_cell_below hb h2, pw_cell_below hb h3, pw_cell_below hb h4, pw_cell_below hb h5, pw_cell_below hb h6, pw_cell_below hb h7, pw_cell_below hb h8, pw_cell_below hb h9, pw_cell_below hb h10⟩
def sfT (x : Nat) : Nat := if x = 383 then 83 else ascT x
theorem ascT_lt : ∀ x, x < 128 → ascT x < 65536 := by decide +kernel
theorem sf_any (x : Nat) (W : World) (hT : FoldT W) (hx : x < 128 ∨ x = 383) : Calls Tryz.prog 95 #[.int .i32 (x : Int)] W fun e w' => e = .returned (.int .i32 (sfT x : Int)) ∧ w' = W := by
  by_cases h : x = 383
  · subst h
    obtain ⟨b, o, cap, sp, h2, h3, h4, h5, h6, h7, h8, h9, h10⟩ := hT.orb
    exact sf_383 b o cap sp W h2 h3 h4 h5 h6 h7 h8 h9 h10
  · have hx' : x < 128 := by omega
    have e : sfT x = ascT x := if_neg h
    rw [e]
    exact sf_low x (ascT x) W hx' (ascT_lt x hx') (hT.asc x hx')
abbrev WBas : ByteArray := ⟨#[98, 97, 115, 105, 99]⟩
set_option maxRecDepth 100000 in
theorem dr_low (s : ByteArray) (w : World) (h : 0 < s.size) (hlow : (s[0]'h).toNat < 128) : Calls Tryz.prog 94 #[.string s] w fun e w' => e = .returned (.tuple #[.int .i32 ((s[0]'h).toNat : Int), .int .i64 1]) ∧ w' = w := by
  have hz : (s.size : Int) ≠ 0 := by omega
  have h0 : (0 : Int) < (s.size : Int) := by omega
  have he : s.toList.isEmpty = false := by
    rw [ByteArray.toList_eq]
    have : s.data.toList.length = s.size := by simp
    cases hh : s.data.toList with
    | nil => rw [hh] at this; simp at this; omega
    | cons => rfl
  go_enter Tryz.func94, Tryz.ntmps94
  go_wp2
  go_ret2
  exact ⟨rfl, rfl⟩
theorem dec_383 (s : ByteArray) (pos n : Nat) (h : pos < s.size) (e : Utf8.decode s pos = (383, n)) : 2 ≤ n := by
  have hl : s.data.toList.length = s.size := by rw [Array.length_toList]; rfl
  rw [Lib.decode_N, hl] at e
  have l0 := (s.data.toList.getD pos 0).toNat_lt
  generalize e0 : (s.data.toList.getD pos 0).toNat = b0 at *
  generalize e1 : (s.data.toList.getD (pos + 1) 0).toNat = b1 at *
  generalize e2 : (s.data.toList.getD (pos + 2) 0).toNat = b2 at *
  generalize e3 : (s.data.toList.getD (pos + 3) 0).toNat = b3 at *
  by_cases hb : b0 < 128
  · unfold Lib.decodeN at e
    rw [if_pos hb] at e
    injection e with ea eb
    omega
  · rcases Lib.decodeN_shape (s.size - pos) b0 b1 b2 b3 with ⟨h1, _⟩ | ⟨h1, h2, h3, h4, h5⟩ | ⟨h1, h2, h3, h4, h5, h6, h7⟩ | ⟨h1, h2, h3, h4, h5, h6, h7, h8⟩ | h1
    · omega
    · rw [h5] at e; injection e with ea eb; omega
    · rw [h7] at e; injection e with ea eb; omega
    · rw [h8] at e; injection e with ea eb; omega
    · rw [h1] at e; injection e with ea eb; omega
structure Wd (S T : ByteArray) (pos m : Nat) : Prop where
  t : T.data.toList = ([98, 97, 115, 105, 99] : List UInt8).drop m
  ml : m ≤ 5
  pl : pos ≤ S.size
  le : S.size - pos ≤ 5 - m
  eq : S.size - pos = 5 - m → pos < S.size ∧ 128 ≤ (S.data.toList.getD pos 0).toNat
theorem Wd.size {S T : ByteArray} {pos m : Nat} (h : Wd S T pos m) : T.size = 5 - m := by
  have : T.data.toList.length = T.size := by simp
  rw [← this, h.t, List.length_drop]; rfl
theorem Wd.next {S T : ByteArray} {pos m n : Nat} (h : Wd S T pos m) (hlt : pos < S.size) (hn : pos + n ≤ S.size) (h1 : 1 ≤ n) (hc : (S.data.toList.getD pos 0).toNat < 128 ∨ 2 ≤ n) (hm : m < 5) : Wd S (T.extract 1 T.size) (pos + n) (m + 1) := by
  have hs := h.size
  have hle := h.le
  refine ⟨?_, by omega, by omega, by omega, fun e => ?_⟩
  · rw [Lib.extract_data, h.t, List.drop_drop, List.take_of_length_le]
    · rw [List.length_drop]; show 5 - (m + 1) ≤ _; omega
  · rcases hc with hc | hc
    · have := h.eq (by omega); omega
    · omega
theorem Wd.letter {S T : ByteArray} {pos m : Nat} (h : Wd S T pos m) (hm : m < 5) : ∃ (h0 : 0 < T.size), ((T[0]'h0).toNat = 98 ∨ (T[0]'h0).toNat = 97 ∨ (T[0]'h0).toNat = 115 ∨ (T[0]'h0).toNat = 105 ∨ (T[0]'h0).toNat = 99) := by
  have hs := h.size
  refine ⟨by omega, ?_⟩
  rw [← getD_at T 0 (by omega), h.t, List.getD_eq_getElem?_getD, List.getElem?_drop, Nat.add_zero]
  match m, hm with
  | 0, _ => exact .inl rfl
  | 1, _ => exact .inr (.inl rfl)
  | 2, _ => exact .inr (.inr (.inl rfl))
  | 3, _ => exact .inr (.inr (.inr (.inl rfl)))
  | 4, _ => exact .inr (.inr (.inr (.inr rfl)))
theorem next_far {f : Nat → Nat} {i : Nat} (h : ∃ j, i ≤ j ∧ j < 5 ∧ 128 ≤ f j) (hi : f i < 128) : ∃ j, i + 1 ≤ j ∧ j < 5 ∧ 128 ≤ f j := by
  obtain ⟨j, j1, j2, j3⟩ := h
  have hne : i ≠ j := by
    intro e
    rw [e] at hi
    omega
  exact ⟨j, by omega, j2, j3⟩
theorem wide_mk (s L : ByteArray) (i : Nat) (u2 u3 u4 u6 u7 u8 u9 u10 u11 u12 u13 u14 u15 u16 u17 u18 u19 u20 u21 u22 u23 u24 u25 u26 u27 u28 u29 u30 u31 u32 u33 u34 u35 u36 u37 u38 u39 u40 u41 u42 u43 u44 u45 u46 u47 u48 u49 u50 u51 u52 u53 u54 u55 u56 u57 u58 u59 u60 u61 u62 u63 u64 u65 u66 u67 u68 u69 u70 u71 u72 u73 u74 u75 u76 u77 u78 u79 u80 u81 u82 u83 u84 u85 u86 u87 u88 u89 u90 u91 u92 u93 u94 u95 u96 u97 u98 u99 u100 u101 u102 u103 u104 u105 u106 u107 u108 u109 u110 u111 u112 u113 u114 u115 u116 u117 u118 u119 u120 u121 u122 : Value) : ∃ u : Nat → Value, ({ tmps := #[.string s, .string L, u2, u3, u4, .int .i64 (i : Int), u6, u7, u8, u9, u10, u11, u12, u13, u14, u15, u16, u17, u18, u19, u20, u21, u22, u23, u24, u25, u26, u27, u28, u29, u30, u31, u32, u33, u34, u35, u36, u37, u38, u39, u40, u41, u42, u43, u44, u45, u46, u47, u48, u49, u50, u51, u52, u53, u54, u55, u56, u57, u58, u59, u60, u61, u62, u63, u64, u65, u66, u67, u68, u69, u70, u71, u72, u73, u74, u75, u76, u77, u78, u79, u80, u81, u82, u83, u84, u85, u86, u87, u88, u89, u90, u91, u92, u93, u94, u95, u96, u97, u98, u99, u100, u101, u102, u103, u104, u105, u106, u107, u108, u109, u110, u111, u112, u113, u114, u115, u116, u117, u118, u119, u120, u121, u122], defers := [] } : Act) = { tmps := #[.string s, .string L, u 2, u 3, u 4, .int .i64 (i : Int), u 6, u 7, u 8, u 9, u 10, u 11, u 12, u 13, u 14, u 15, u 16, u 17, u 18, u 19, u 20, u 21, u 22, u 23, u 24, u 25, u 26, u 27, u 28, u 29, u 30, u 31, u 32, u 33, u 34, u 35, u 36, u 37, u 38, u 39, u 40, u 41, u 42, u 43, u 44, u 45, u 46, u 47, u 48, u 49, u 50, u 51, u 52, u 53, u 54, u 55, u 56, u 57, u 58, u 59, u 60, u 61, u 62, u 63, u 64, u 65, u 66, u 67, u 68, u 69, u 70, u 71, u 72, u 73, u 74, u 75, u 76, u 77, u 78, u 79, u 80, u 81, u 82, u 83, u 84, u 85, u 86, u 87, u 88, u 89, u 90, u 91, u 92, u 93, u 94, u 95, u 96, u 97, u 98, u 99, u 100, u 101, u 102, u 103, u 104, u 105, u 106, u 107, u 108, u 109, u 110, u 111, u 112, u 113, u 114, u 115, u 116, u 117, u 118, u 119, u 120, u 121, u 122], defers := [] } := ⟨fun k => [undef, undef, u2, u3, u4, undef, u6, u7, u8, u9, u10, u11, u12, u13, u14, u15, u16, u17, u18, u19, u20, u21, u22, u23, u24, u25, u26, u27, u28, u29, u30, u31, u32, u33, u34, u35, u36, u37, u38, u39, u40, u41, u42, u43, u44, u45, u46, u47, u48, u49, u50, u51, u52, u53, u54, u55, u56, u57, u58, u59, u60, u61, u62, u63, u64, u65, u66, u67, u68, u69, u70, u71, u72, u73, u74, u75, u76, u77, u78, u79, u80, u81, u82, u83, u84, u85, u86, u87, u88, u89, u90, u91, u92, u93, u94, u95, u96, u97, u98, u99, u100, u101, u102, u103, u104, u105, u106, u107, u108, u109, u110, u111, u112, u113, u114, u115, u116, u117, u118, u119, u120, u121, u122].getD k undef, rfl⟩
def WideJ (s L : ByteArray) (w : World) (a' : Act) (w' : World) : Prop := w' = w ∧ ∃ (i : Nat), i < 5 ∧ 128 ≤ (s.data.toList.getD i 0).toNat ∧ ∃ u : Nat → Value, a' = { tmps := #[.string s, .string L, u 2, u 3, u 4, .int .i64 (i : Int), u 6, u 7, u 8, u 9, u 10, u 11, u 12, u 13, u 14, u 15, u 16, u 17, u 18, u 19, u 20, u 21, u 22, u 23, u 24, u 25, u 26, u 27, u 28, u 29, u 30, u 31, u 32, u 33, u 34, u 35, u 36, u 37, u 38, u 39, u 40, u 41, u 42, u 43, u 44, u 45, u 46, u 47, u 48, u 49, u 50, u 51, u 52, u 53, u 54, u 55, u 56, u 57, u 58, u 59, u 60, u 61, u 62, u 63, u 64, u 65, u 66, u 67, u 68, u 69, u 70, u 71, u 72, u 73, u 74, u 75, u 76, u 77, u 78, u 79, u 80, u 81, u 82, u 83, u 84, u 85, u 86, u 87, u 88, u 89, u 90, u 91, u 92, u 93, u 94, u 95, u 96, u 97, u 98, u 99, u 100, u 101, u 102, u 103, u 104, u 105, u 106, u 107, u 108, u 109, u 110, u 111, u 112, u 113, u 114, u 115, u 116, u 117, u 118, u 119, u 120, u 121, u 122], defers := [] }
set_option maxRecDepth 100000 in
set_option maxHeartbeats 2000000 in
theorem fold_wide (s : ByteArray) (hs : s.size = 5) (hn : ∃ j, j < 5 ∧ 128 ≤ (s.data.toList.getD j 0).toNat) (w : World) (hT : FoldT w) : Calls Tryz.prog 62 #[.string s, .string WBas] w fun e w' => e = .returned (.bool false) ∧ Below w.heap.size w w' := by
  have HT := Lib.hid hT
  have HN := Lib.hid hn
  clear hn hT
  have hL0 : WBas.size = 5 := rfl
  obtain ⟨L, hL⟩ : ∃ L, L = WBas := ⟨_, rfl⟩
  rw [← hL] at hL0 ⊢
  have HL := Lib.hid hL
  clear hL
  go_enter Tryz.func62, Tryz.ntmps62
  go_wp2
  refine wp_scope_jumps 0 (WideJ s L w) (fun _ _ => 0) rfl ?_ ?_
  · go_wp2
    go_loopg [5] 5 (fun gf v5 wx => ∃ i : Nat, v5 = .int .i64 (i : Int) ∧ i + gf = 5 ∧ wx = w ∧ ∃ j, i ≤ j ∧ j < 5 ∧ 128 ≤ (s.data.toList.getD j 0).toNat)
    case atStart => exact ⟨0, rfl, rfl, rfl, by obtain ⟨j, h1, h2⟩ := HN.out; exact ⟨j, Nat.zero_le _, h1, h2⟩⟩
    case round =>
      obtain ⟨i, rfl, hg, rfl, hj⟩ := hrel
      have hLlow : ∀ i (h : i < L.size), (L[i]'h).toNat < 128 := fun i h => by
        rw [← getD_at L i h, HL.out]
        exact WBas_low i (by omega)
      have HLL := Lib.hid hLlow
      have HJ := Lib.hid hj
      clear hj hLlow
      go_wp2
      · go_step3
        have h5 : i < 5 := by omega
        have hor : 128 ≤ bits .or .u8 (((s[i]'(by omega)).toNat : Nat) : Int) (((L[i]'(by omega)).toNat : Nat) : Int) := by assumption
        have hhi := or_high _ _ (UInt8.toNat_lt _) (HLL.out i (by omega)) hor
        rw [← getD_at s i (by omega)] at hhi
        exact ⟨rfl, rfl, i, h5, hhi, wide_mk s L i _ _ _ _ _ _ _ _ _ _ _ _ _ _ _ _ _ _ _ _ _ _ _ _ _ _ _ _ _ _ _ _ _ _ _ _ _ _ _ _ _ _ _ _ _ _ _ _ _ _ _ _ _ _ _ _ _ _ _ _ _ _ _ _ _ _ _ _ _ _ _ _ _ _ _ _ _ _ _ _ _ _ _ _ _ _ _ _ _ _ _ _ _ _ _ _ _ _ _ _ _ _ _ _ _ _ _ _ _ _ _ _ _ _ _ _ _ _ _ _⟩
      all_goals first
        | (simp only [Exit.jump]; go_ret; exact ⟨rfl, Below.refl _ _⟩)
        | (exfalso; obtain ⟨j, j1, j2, j3⟩ := HJ.out; omega)
        | skip
      all_goals
        have h5 : i < 5 := by omega
        have hor : bits .or .u8 (((s[i]'(by omega)).toNat : Nat) : Int) (((L[i]'(by omega)).toNat : Nat) : Int) < 128 := by assumption
        have hlow := or_low _ _ (UInt8.toNat_lt _) (UInt8.toNat_lt _) hor
        rw [← getD_at s i (by omega)] at hlow
        go_roundg (gk - 1)
        case measure => omega
        case rel => exact ⟨i + 1, rfl, by omega, rfl, next_far HJ.out hlow⟩
  · rintro a' w' ⟨rfl, i, hi, hwide, u, rfl⟩
    have c1 : ((i : Int) ≤ (s.size : Int)) = True := eq_true (by omega)
    have c2 : ((i : Int) ≤ (L.size : Int)) = True := eq_true (by omega)
    have hWd : Wd (s.extract i 5) (L.extract i 5) 0 i := by
      have e1 : (s.extract i 5).data.toList = s.data.toList.drop i := by
        rw [Lib.extract_data, List.take_of_length_le]
        rw [List.length_drop, Array.length_toList]; show s.size - i ≤ _; omega
      have e2 : (s.extract i 5).size = 5 - i := by
        have : (s.extract i 5).data.toList.length = (s.extract i 5).size := by rw [Array.length_toList]; rfl
        rw [← this, e1, List.length_drop, Array.length_toList]; show s.size - i = _; rw [hs]
      refine ⟨?_, by omega, by omega, by omega, fun _ => ⟨by omega, ?_⟩⟩
      · rw [Lib.extract_data, HL.out]
        exact List.take_of_length_le (by rw [List.length_drop]; exact Nat.le_refl _)
      · rw [e1, List.getD_eq_getElem?_getD, List.getElem?_drop, Nat.add_zero, ← List.getD_eq_getElem?_getD]; exact hwide
    have HW := Lib.hid hWd
    clear hWd hwide
    go_wp2
    obtain ⟨S, hS⟩ : ∃ S, S = s.extract i 5 := ⟨_, rfl⟩
    obtain ⟨T0, hT0⟩ : ∃ T0, T0 = L.extract i 5 := ⟨_, rfl⟩
    rw [← hS, ← hT0]
    rw [← hS, ← hT0] at HW
    clear hS hT0 c1 c2 HN HL
    have HDF := Lib.hid (dec_facts S)
    have H383 := Lib.hid (dec_383 S)
    go_loopg [1] S.size (fun g v1 wx => ∃ (T : ByteArray) (pos m : Nat), v1 = .string T ∧ Wd S T pos m ∧ pos + g = S.size ∧ wx.heap[w'.heap.size]? = some (.stringIter S pos) ∧ Below w'.heap.size w' wx)
    case atStart => exact ⟨_, 0, i, rfl, HW.out, by omega, World.iter_heap w' S 0, (Below.refl _ w').alloc (Nat.le_refl _) _⟩
    case round =>
      obtain ⟨T, pos, m, rfl, hW, hpg, hit, hbw⟩ := hrel
      by_cases hps : pos < S.size
      · obtain ⟨R, n, hRn, hR1, hn1, hn2, hcase⟩ := HDF.out pos hps
        have hm5 : m < 5 := by have := hW.le; have := hW.ml; omega
        obtain ⟨h0, hy⟩ := hW.letter hm5
        have hTz : T.size = 5 - m := hW.size
        have hnx : ∀ ty, (Instr.next (.pointer (some ⟨w'.heap.size, 0, none⟩)) true ty).run Tryz.prog wr = _ := fun ty => Lib.run_next_any_at wr w'.heap.size S pos ty hit hps
        rw [hRn] at hnx
        have hit2 := Lib.iterAt_heap wr w'.heap.size S pos (pos + n) hit
        have hbw2 := Lib.below_iterAt hbw (k := w'.heap.size) (Nat.le_refl _) S (pos + n)
        obtain ⟨W, hWd⟩ : ∃ W, wr.iterAt w'.heap.size S (pos + n) = W := ⟨_, rfl⟩
        simp only at hnx
        rw [hWd] at hnx hit2 hbw2
        have HTW := Lib.hid (HT.out.below hbw2)
        have HD := Lib.hid (fun V : World => dr_low T V h0 (by omega))
        obtain ⟨y, hyd⟩ : ∃ y, (T[0]'h0).toNat = y := ⟨_, rfl⟩
        rw [hyd] at HD hy
        have hylt : y < 128 := by omega
        have k1 : ((1 : Int) ≤ (T.size : Int)) = True := eq_true (by omega)
        have k2 : ((T.size : Int) == 0) = false := by rw [beq_eq_false_iff_ne]; omega
        have H2 := Lib.hid (fun (e : R = 383) => H383.out pos n hps (by rw [hRn, e]))
        have HNX := Lib.hid (fun hc => hW.next (n := n) hps hn2 hn1 hc hm5)
        have HI := Lib.hid hit2
        have HB := Lib.hid hbw2
        have HY := Lib.hid hy
        clear hRn hit hbw hWd hit2 hbw2 hW hy hyd HW HT hTz
        rcases hcase with ⟨hn, hbyte, hRl⟩ | ⟨hRh, hbytes⟩
        · have HC := Lib.hid hbyte
          clear hbyte
          go_wp2_with (go_at_call 94; refine (HD.out _).mono ?_; rintro e w2 ⟨rfl, rfl⟩)
          all_goals first
            | (go_roundg (S.size - (pos + n))
               case measure => omega
               case rel => exact ⟨_, pos + n, m + 1, rfl, HNX.out (.inl (by rw [HC.out]; exact hRl)), by omega, HI.out, HB.out⟩)
            | (go_ret; exact ⟨rfl, HB.out⟩)
            | (simp only [Exit.jump]; go_ret; exact ⟨rfl, HB.out⟩)
            | skip
        · clear hbytes
          by_cases hs5 : y = 115
          · subst hs5
            clear hylt HY
            have H115 := Lib.hid (fun (V : World) (h : FoldT V) => show Calls Tryz.prog 95 #[.int .i32 115] V (fun e w' => e = .returned (.int .i32 383) ∧ w' = V) from sf_any 115 V h (.inl (by decide)))
            have HF383 := Lib.hid (fun (V : World) (h : FoldT V) => show Calls Tryz.prog 95 #[.int .i32 383] V (fun e w' => e = .returned (.int .i32 83) ∧ w' = V) from sf_any 383 V h (.inr rfl))
            have H83 := Lib.hid (fun (V : World) (h : FoldT V) => show Calls Tryz.prog 95 #[.int .i32 83] V (fun e w' => e = .returned (.int .i32 115) ∧ w' = V) from sf_any 83 V h (.inl (by decide)))
            have r1 : ((115 : Int) == (R : Int)) = false := by rw [beq_eq_false_iff_ne]; omega
            have r2 : ((115 : Int) < (R : Int)) = True := eq_true (by omega)
            have r3 : ((R : Int) < 128) = False := eq_false (by omega)
            have r6 : ((83 : Int) < (R : Int)) = True := eq_true (by omega)
            by_cases hq : R = 383
            · have HN2 := Lib.hid (HNX.out (.inr (H2.out hq)))
              subst hq
              clear HNX H2 H83 HF383
              go_wp2_with (first | (go_at_call 94; refine (HD.out _).mono ?_; rintro e w2 ⟨rfl, rfl⟩) | (go_at_call 95; refine (H115.out _ HTW.out).mono ?_; rintro e w2 ⟨rfl, rfl⟩))
              refine wp_loop_rounds 1 ?_
              rw [rounds_succ]
              go_wp2
              go_roundg (S.size - (pos + n))
              case measure => omega
              case rel => exact ⟨_, pos + n, m + 1, rfl, HN2.out, by omega, HI.out, HB.out⟩
            · by_cases hlt : 383 < R
              · have r4 : ((383 : Int) < (R : Int)) = True := eq_true (by omega)
                clear HNX H2
                go_wp2_with (first | (go_at_call 94; refine (HD.out _).mono ?_; rintro e w2 ⟨rfl, rfl⟩) | (go_at_call 95; refine (H115.out _ HTW.out).mono ?_; rintro e w2 ⟨rfl, rfl⟩))
                refine wp_loop_rounds 3 ?_
                rw [rounds_succ]
                go_wp2_with (go_at_call 95; refine (HF383.out _ HTW.out).mono ?_; rintro e w2 ⟨rfl, rfl⟩)
                rw [rounds_succ]
                go_wp2_with (go_at_call 95; refine (H83.out _ HTW.out).mono ?_; rintro e w2 ⟨rfl, rfl⟩)
                rw [rounds_succ]
                go_wp2
                first | go_ret | (simp only [Exit.jump]; go_ret)
                exact ⟨rfl, HB.out⟩
              · have r4 : ((383 : Int) < (R : Int)) = False := eq_false (by omega)
                have r5 : ((383 : Int) == (R : Int)) = false := by rw [beq_eq_false_iff_ne]; omega
                clear HNX H2
                go_wp2_with (first | (go_at_call 94; refine (HD.out _).mono ?_; rintro e w2 ⟨rfl, rfl⟩) | (go_at_call 95; refine (H115.out _ HTW.out).mono ?_; rintro e w2 ⟨rfl, rfl⟩))
                refine wp_loop_rounds 1 ?_
                rw [rounds_succ]
                go_wp2
                first | go_ret | (simp only [Exit.jump]; go_ret)
                exact ⟨rfl, HB.out⟩
          · obtain ⟨z, hz1, hz2, hz3, hz4⟩ : ∃ z, z < 128 ∧ z ≠ y ∧ sfT y = z ∧ sfT z = y := by
              rcases HY.out with rfl | rfl | rfl | rfl | rfl
              · exact ⟨66, by decide, by decide, by decide, by decide⟩
              · exact ⟨65, by decide, by decide, by decide, by decide⟩
              · exact absurd rfl hs5
              · exact ⟨73, by decide, by decide, by decide, by decide⟩
              · exact ⟨67, by decide, by decide, by decide, by decide⟩
            have HA := Lib.hid (fun (V : World) (h : FoldT V) => sf_any y V h (.inl hylt))
            have HZ := Lib.hid (fun (V : World) (h : FoldT V) => sf_any z V h (.inl hz1))
            rw [hz3] at HA
            rw [hz4] at HZ
            have r1 : ((y : Int) == (R : Int)) = false := by rw [beq_eq_false_iff_ne]; omega
            have r2 : ((y : Int) < (R : Int)) = True := eq_true (by omega)
            have r3 : ((R : Int) < 128) = False := eq_false (by omega)
            have r4 : ((z : Int) < (R : Int)) = True := eq_true (by omega)
            have r5 : ((z : Int) == (y : Int)) = false := by rw [beq_eq_false_iff_ne]; omega
            clear HNX H2 hz3 hz4 HY hs5
            go_wp2_with (first | (go_at_call 94; refine (HD.out _).mono ?_; rintro e w2 ⟨rfl, rfl⟩) | (go_at_call 95; refine (HA.out _ HTW.out).mono ?_; rintro e w2 ⟨rfl, rfl⟩))
            refine wp_loop_rounds 2 ?_
            rw [rounds_succ]
            go_wp2_with (go_at_call 95; refine (HZ.out _ HTW.out).mono ?_; rintro e w2 ⟨rfl, rfl⟩)
            rw [rounds_succ]
            go_wp2
            first | go_ret | (simp only [Exit.jump]; go_ret)
            exact ⟨rfl, HB.out⟩
      · have hm5 : m < 5 := by
          have h1 := hW.ml
          have h2 := hW.eq
          have h3 := hW.le
          apply Classical.byContradiction
          intro hn
          have := (h2 (by omega)).1
          omega
        have hTz : (T.size == 0) = false := by rw [beq_eq_false_iff_ne, hW.size]; omega
        have hTi : ((T.size : Int) == 0) = false := by rw [beq_eq_false_iff_ne, hW.size]; omega
        have hnx : ∀ ty, (Instr.next (.pointer (some ⟨w'.heap.size, 0, none⟩)) true ty).run Tryz.prog wr = _ := fun ty => Lib.run_next_end_at wr w'.heap.size S pos ty hit hps
        have HB := Lib.hid hbw
        clear hW hbw hit
        go_wp2
        all_goals first
          | (go_ret; exact ⟨rfl, HB.out⟩)
          | (simp only [Exit.jump]; go_ret; exact ⟨rfl, HB.out⟩)
end Go.Proofs.YtmimipgmhgalaaaGreatDoor.PAll
end
section
namespace Go.Proofs.YtmimipgmhgalaaaGreatDoor.PAll
open Go.RowKit Go.Proofs.YtmimipgmhgalaaaGreatDoorW.PrintWords Go.Proofs.YtmimipgmhgalaaaGreatDoorW.PrintLast Go.Proofs.YtmimipgmhgalaaaGreatDoorW.PrintMore
attribute [local go_sem] max2_int min2_int max_two min_two max_three min_three max_four min_four
set_option linter.unusedVariables false
set_option linter.unusedSimpArgs false
def wicketlaw11_ClientBasics.f (k : Nat) (a0 : ByteArray) : Option (Bool) := (client_Basic.f k a0).bind fun bt752 => ((wicketref11_Basic.f k a0).bind fun bt755 => (if bt752.1.toList = bt755.1.toList then (if bt752.2.1.toList = bt755.2.1.toList then ((wicketlaw11_num.f bt752.2.2).bind fun t758 => (if t758 = bt755.2.2 then ((wicketlaw11_live.f).bind fun t759 => (some t759)) else (some false))) else (some false)) else (some false)))
def wicketlaw11_ClientBasics.Pure : Prop := ∀ (a0 : ByteArray), a0.size ≤ 140737488351232 → ∃ k, wicketlaw11_ClientBasics.f k a0 = some true
end Go.Proofs.YtmimipgmhgalaaaGreatDoor.PAll
end
section
namespace Go.Proofs.YtmimipgmhgalaaaGreatDoor.PAll
open Go.RowKit Go.Proofs.YtmimipgmhgalaaaGreatDoorW.PrintWords
set_option linter.unusedVariables false
set_option linter.unusedSimpArgs false
theorem wide_at (s : ByteArray) (hs : s.size = 5) (h : asciiS s = false) : ∃ j, j < 5 ∧ 128 ≤ (s.data.toList.getD j 0).toNat := by
  unfold asciiS at h
  rw [List.all_eq_false] at h
  obtain ⟨b, hb, hx⟩ := h
  obtain ⟨j, hj⟩ := List.getElem?_of_mem hb
  have hl : j < s.data.toList.length := by
    apply Classical.byContradiction
    intro hn
    rw [List.getElem?_eq_none (by omega)] at hj
    cases hj
  have hl2 : s.data.toList.length = s.size := by rw [Array.length_toList]; rfl
  refine ⟨j, by omega, ?_⟩
  rw [List.getD_eq_getElem?_getD, hj]
  have : ¬ b.toNat < 128 := fun e => hx (decide_eq_true e)
  show 128 ≤ b.toNat
  omega
set_option maxRecDepth 100000 in
set_option maxHeartbeats 1000000 in
theorem basic_wide (h : ByteArray) (h1 : h.size ≤ 1024) (h2 : 6 ≤ h.size) (hn : asciiS (h.extract 0 5) = false) (w : World) (hT : FoldT w) : Calls Tryz.prog 32 #[.string h] w fun e w' => e = .returned (.tuple #[.string ⟨#[]⟩, .string ⟨#[]⟩, .int .i64 113]) ∧ Below w.heap.size w w' := by
  have hs : (h.extract 0 5).size = 5 := by
    have e := Lib.extract_data h 0 5
    have : (h.extract 0 5).data.toList.length = (h.extract 0 5).size := by rw [Array.length_toList]; rfl
    rw [← this, e, List.length_take, List.length_drop, Array.length_toList]
    show min (5 - 0) (h.size - 0) = 5
    omega
  have HF := Lib.hid (fun (V : World) (hV : FoldT V) => fold_wide (h.extract 0 5) hs (wide_at _ hs hn) V hV)
  have HT := Lib.hid hT
  have c1 : ((1024 : Int) < (h.size : Int)) = False := eq_false (by omega)
  have c2 : ((h.size : Int) < 6) = False := eq_false (by omega)
  have c3 : ((5 : Int) ≤ (h.size : Int)) = True := eq_true (by omega)
  have c4 : ((5 : Int) < (h.size : Int)) = True := eq_true (by omega)
  clear hn hT hs
  go_enter Tryz.func32, Tryz.ntmps32
  go_wp2_with (go_at_call 62; refine (HF.out _ HT.out).mono ?_; rintro e w1 ⟨rfl, hb⟩; have HB := Lib.hid hb; clear hb)
  go_ret3
  exact ⟨rfl, HB.out⟩
end Go.Proofs.YtmimipgmhgalaaaGreatDoor.PAll
end
section
namespace Go.Proofs.YtmimipgmhgalaaaGreatDoor.PAll
open Go.RowKit Go.Proofs.YtmimipgmhgalaaaGreatDoorW.PrintWords Go.Proofs.YtmimipgmhgalaaaGreatDoorW.PrintLast Go.Proofs.YtmimipgmhgalaaaGreatDoorW.PrintMore
set_option linter.unusedVariables false
set_option linter.unusedSimpArgs false
def wideE (e1 e2 : Int) : Int := if e1 = 0 ∧ e2 = 0 then 113 else 34
set_option maxRecDepth 100000 in
set_option maxHeartbeats 1000000 in
theorem auth_wide (k : Nat) (V : World) (A0 : Option Addr) (n0 c0 : Nat) (hd : ByteArray) (A2 : Option Addr) (c2 : Nat) (l2 : List S68) (h2 : Kd.C k68 V A2 l2.length l2) (h3 : l2.length ≤ c2) (s1 : hd.size ≤ 1024) (s2 : 6 ≤ hd.size) (hn : asciiS (hd.extract 0 5) = false) (hT : FoldT V)
    (v1 v2 : ByteArray) (b1 b2 : Bool) (e1 e2 : Int) (o1 : urlform_One.f k l2 ⟨#[99, 108, 105, 101, 110, 116, 95, 105, 100]⟩ = some (v1, b1, e1)) (o2 : urlform_One.f k l2 ⟨#[99, 108, 105, 101, 110, 116, 95, 115, 101, 99, 114, 101, 116]⟩ = some (v2, b2, e2)) (he1 : e1 = 0 ∨ e1 = 34) (he2 : e2 = 0 ∨ e2 = 34) :
    Calls Tryz.prog 34 #[.slice A0 n0 c0, .string hd, .slice A2 l2.length c2] V fun e w' => e = .returned (.tuple #[.agg #[.string ⟨#[]⟩, .string ⟨#[]⟩, .int .i64 0, .bool false, .string ⟨#[]⟩, .slice none 0 0], .int .i64 0, .int .i64 (wideE e1 e2)]) ∧ Below V.heap.size V w' := by
  have HO1 := Lib.hid (fun (W : World) (h : Kd.C k68 W A2 l2.length l2) => urlform_One.calls k A2 c2 l2 _ v1 b1 e1 W h h3 o1)
  have HO2 := Lib.hid (fun (W : World) (h : Kd.C k68 W A2 l2.length l2) => urlform_One.calls k A2 c2 l2 _ v2 b2 e2 W h h3 o2)
  have HBas := Lib.hid (fun (W : World) (h : FoldT W) => basic_wide hd s1 s2 hn W h)
  have HT := Lib.hid hT
  have hne : hd.toList ≠ [] := by
    intro h
    have h5 : hd.data.toList = [] := by rw [← ByteArray.toList_eq]; exact h
    have h6 : hd.data.toList.length = hd.size := by rw [Array.length_toList]; rfl
    rw [h5, List.length_nil] at h6
    omega
  have f1 : hd.toList.isEmpty = false := by cases hl : hd.toList with | nil => exact absurd hl hne | cons _ _ => rfl
  have f2 : (hd.toList == []) = false := beq_eq_false_iff_ne.2 hne
  have f3 : (hd.toList != []) = true := bne_iff_ne.2 hne
  clear o1 o2 hn hT hne s1 s2
  rcases he1 with rfl | rfl <;> rcases he2 with rfl | rfl
  all_goals
    go_enter Tryz.func34, Tryz.ntmps34
    go_upto_region 1 with ((with_reducible refine gate_dst (N := 6) rfl ?_); refine box_event ?hg (N := 6) ?hd (cs := #[.string ⟨#[]⟩, .string ⟨#[]⟩, .int .i64 0, .bool false, .string ⟨#[]⟩, .slice none 0 0]) (t := 40) ?hr ?_; (case hd => rfl); (case hg => rfl); (case hr => first | (go_simp; done) | (go_simp; rfl)); intro q hg w_q hbox hb; have BQ := Lib.hid hbox; have GE := Lib.hid ((by rw [hg]; exact Nat.le_refl _) : V.heap.size ≤ q); have HB := Lib.hid hb; have HD := Lib.hid (Kd.C_below h2 hb); have HT1 := Lib.hid (FoldT.below HT.out hb); clear hbox hg hb h2 HT)
    go_wp2_with (first | (go_at_call 69; (with_reducible refine (HO1.out _ HD.out).mono ?_); rintro e w1 ⟨rfl, hb⟩; have n1_ := Lib.hid (below_step HB.out hb); have n2_ := Lib.hid (blk_below BQ.out hb); have n3_ := Lib.hid (FoldT.below HT1.out hb); have n4_ := Lib.hid (Kd.C_below HD.out hb); clear HB BQ HT1 HD; have HB := n1_; have BQ := n2_; have HT1 := n3_; have HD := n4_; clear n1_ n2_ n3_ n4_ hb HO1) | (go_at_call 69; (with_reducible refine (HO2.out _ HD.out).mono ?_); rintro e w2 ⟨rfl, hb⟩; have n1_ := Lib.hid (below_step HB.out hb); have n2_ := Lib.hid (blk_below BQ.out hb); have n3_ := Lib.hid (FoldT.below HT1.out hb); clear HB BQ HT1 HD; have HB := n1_; have BQ := n2_; have HT1 := n3_; clear n1_ n2_ n3_ hb HO2; obtain ⟨c60, c61, c62, c63, c64, c65, f60, f61, f62, f63, f64, f65⟩ := cz6_ BQ.out) | (go_at_call 32; (with_reducible refine (HBas.out _ HT1.out).mono ?_); rintro e w3 ⟨rfl, hb⟩; have n1_ := Lib.hid (below_step HB.out hb); have n2_ := Lib.hid (blk_below BQ.out hb); clear HB BQ HT1 c60 c61 c62 c63 c64 c65 f60 f61 f62 f63 f64 f65; have HB := n1_; have BQ := n2_; clear n1_ n2_ hb; obtain ⟨c60, c61, c62, c63, c64, c65, f60, f61, f62, f63, f64, f65⟩ := cz6_ BQ.out))
    refine bodyPost_ret (results_ctt rfl _ _ q 40 #[.string ⟨#[]⟩, .string ⟨#[]⟩, .int .i64 0, .bool false, .string ⟨#[]⟩, .slice none 0 0] (0, 0) _ rfl (put_six BQ.out _ _ _ _ _ _) Tryz.underlying40 rfl (by kernel_rfl)) rfl ?_
    exact ⟨rfl, below_six HB.out GE.out _ _ _ _ _ _⟩
end Go.Proofs.YtmimipgmhgalaaaGreatDoor.PAll
end
section
namespace Go.Proofs.YtmimipgmhgalaaaGreatDoor.Open
open Go.ChangeShapes Go.WideShapes Go.ChangeAt Go.RowKit Go.Proofs.YtmimipgmhgalaaaGreatDoorW.PrintWords
def Opens {α : Type} (P : Program) (T : TypeId) (d : Kd α) (m : α → Nat) (ok : α → Prop) : Prop :=
  ∀ (H : Type) (enc : TypeId × Value → H) (w : World) (base : Nat) (spare : Nat → Bool) (held : Bool) (fuel : Nat) (cs : List Value) (x : DataW H × List MemPlace),
    DataW.trod enc P w base spare held fuel T cs = some x → ∃ a, d.K w a cs ∧ m a ≤ Rows.uptoBulk x.1 ∧ ((DataW.weights P T x.1).all (· ≤ reachBytes) = true → ok a)
theorem opens_string {P : Program} {T : TypeId} (hu : P.underlying T = some .string) : Opens P T Kd.string (fun s => s.size + 1) (fun s => s.size ≤ 140737488351232) := by
  intro H enc w base spare held fuel cs x h
  obtain ⟨s, rfl, rfl, _⟩ := DataW.trod_string hu h
  refine ⟨s, rfl, ?_, fun hw => ?_⟩
  · simp [Rows.uptoBulk]
  · simp only [DataW.weights, List.all_cons, List.all_nil, Bool.and_true, reachBytes, Array.length_toList] at hw
    exact of_decide_eq_true hw
theorem opens_int {P : Program} {T : TypeId} {k : IntKind} (hu : P.underlying T = some (.int k)) : Opens P T (Kd.int k) (fun _ => 1) (fun n => (Lit.int k n).wf = true) := by
  intro H enc w base spare held fuel cs x h
  obtain ⟨n, rfl, rfl, hw⟩ := DataW.trod_int hu h
  exact ⟨n, rfl, by simp [Rows.uptoBulk], fun _ => hw⟩
theorem opens_bool {P : Program} {T : TypeId} (hu : P.underlying T = some .bool) : Opens P T Kd.bool (fun _ => 1) (fun _ => True) := by
  intro H enc w base spare held fuel cs x h
  have h' : ∃ b, cs = [.bool b] ∧ x = (.lit (.bool b), []) := by
    cases fuel with
    | zero => simp [DataW.trod] at h
    | succ n =>
      unfold DataW.trod at h
      rw [hu] at h
      split at h <;> simp_all
  obtain ⟨b, rfl, rfl⟩ := h'
  exact ⟨b, rfl, by simp [Rows.uptoBulk], fun _ => trivial⟩
theorem cells?_at {w : World} {base : Nat} {a : Addr} {n : Nat} {cs : List Value} (h : w.cells? base a n = some cs) : cs.length = n ∧ ∀ (i : Nat) (u : Value), cs[i]? = some u → w.cell? (a.add i) = some u := by
  unfold World.cells? at h
  split at h
  · refine ⟨by simpa using mapM_some_length h, fun i u hu => ?_⟩
    have hi : i < n := by
      have h1 := (List.getElem?_eq_some_iff.1 hu).1
      have h2 : cs.length = n := by simpa using mapM_some_length h
      omega
    have := mapM_some_get h i i (by simp [hi])
    rw [this, hu]
  · cases h
theorem bulk_all_le {H : Type} {α : Type} {m : α → Nat} : ∀ (l : List α) (ys : List (DataW H)), l.length ≤ ys.length → (∀ (i : Nat) (a : α) (y : DataW H), l[i]? = some a → ys[i]? = some y → m a ≤ Rows.uptoBulk y) → (l.map m).sum ≤ Rows.uptoBulkAll ys
  | [], ys, _, _ => by simp
  | a :: l, [], hl, _ => by simp at hl
  | a :: l, y :: ys, hl, h => by
    have h0 := h 0 a y rfl rfl
    have h1 := bulk_all_le l ys (by simpa using hl) (fun i b z hb hz => h (i + 1) b z (by simpa using hb) (by simpa using hz))
    simp only [List.map_cons, List.sum_cons, Rows.uptoBulkAll]
    omega
theorem weights_all_at {H : Type} (P : Program) (e : TypeId) : ∀ (ys : List (DataW H)), (DataW.weightsAll P e ys).all (· ≤ reachBytes) = true → ∀ (i : Nat) (y : DataW H), ys[i]? = some y → (DataW.weights P e y).all (· ≤ reachBytes) = true
  | [], _, i, y, hy => by simp at hy
  | z :: ys, h, i, y, hy => by
    rw [DataW.weightsAll, List.all_append, Bool.and_eq_true] at h
    cases i with
    | zero => simp at hy; subst hy; exact h.1
    | succ i => exact weights_all_at P e ys h.2 i y (by simpa using hy)
theorem choose_list {α β : Type} {n : Nat} {ys : List β} (hn : ys.length = n) {Q : Nat → β → α → Prop} (h : ∀ (i : Nat) (y : β), ys[i]? = some y → ∃ a, Q i y a) : ∃ l : List α, l.length = n ∧ ∀ (i : Nat) (y : β) (a : α), ys[i]? = some y → l[i]? = some a → Q i y a := by
  induction ys generalizing n Q with
  | nil => exact ⟨[], by simpa using hn, by simp⟩
  | cons y ys ih =>
    obtain ⟨a, ha⟩ := h 0 y rfl
    obtain ⟨l, hl, hq⟩ := ih (n := ys.length) rfl (Q := fun i => Q (i + 1)) (fun i z hz => h (i + 1) z (by simpa using hz))
    refine ⟨a :: l, by simp at hn ⊢; omega, fun i z b hz hb => ?_⟩
    cases i with
    | zero => simp at hz hb; subst hz hb; exact ha
    | succ i => exact hq i z b (by simpa using hz) (by simpa using hb)
theorem opens_slice {α : Type} {P : Program} {T e : TypeId} {d : Kd α} {m : α → Nat} {ok : α → Prop} {B : Nat} (hu : P.underlying T = some (.slice e)) (ho : Opens P e d m ok) (hc : P.cellsOf e = d.sz) (hB : P.bytesOf e = B) :
    Opens P T (Kd.slice e d) (fun l => (l.map m).sum + 1) (fun l => l.length * B ≤ 140737488351232 ∧ ∀ a, a ∈ l → ok a) := by
  intro H enc w base spare held fuel cs x h
  rcases DataW.trod_slice hu h with ⟨rfl, rfl⟩ | ⟨a, len, cap, elems, rest, n, _, rfl, rfl, hb, hl, hm, hlen, hel, hsp, hns⟩
  · refine ⟨[], ⟨none, 0, rfl, Nat.le_refl _, rfl, by simp, fun h => absurd h (by simp)⟩, by simp [Rows.uptoBulk], fun _ => ⟨by simp, by simp⟩⟩
  · have each : ∀ (i : Nat) (y : DataW H × List MemPlace), elems[i]? = some y → ∃ b : α, (∃ c, d.K w b c ∧ c.length = d.sz ∧ ∀ (j : Nat) (u : Value), c[j]? = some u → w.cell? ((a.add (i * d.sz)).add j) = some u) ∧ m b ≤ Rows.uptoBulk y.1 ∧ ((DataW.weights P e y.1).all (· ≤ reachBytes) = true → ok b) := by
      intro i y hy
      have hi : i < len := by rw [← hlen]; exact (List.getElem?_eq_some_iff.1 hy).1
      have h1 := hel i hi
      rw [hy, Option.bind_eq_some_iff] at h1
      obtain ⟨c, hcs, ht⟩ := h1
      obtain ⟨b, hk, hm', hok⟩ := ho H enc w base spare held n c y ht
      rw [hc] at hcs
      obtain ⟨hcl, hcc⟩ := cells?_at hcs
      exact ⟨b, ⟨c, hk, hcl, hcc⟩, hm', hok⟩
    obtain ⟨l, hll, hq⟩ := choose_list hlen each
    have hget : ∀ (i : Nat) (b : α), l[i]? = some b → ∃ y, elems[i]? = some y := fun i b hb => by
      have hi : i < l.length := (List.getElem?_eq_some_iff.1 hb).1
      exact ⟨elems[i]'(by omega), List.getElem?_eq_getElem (by omega)⟩
    refine ⟨l, ⟨some a, cap, by rw [hll], by omega, ⟨rfl, by unfold maxLen at hm; omega, fun _ => ⟨a, rfl, fun j p hp => ?_⟩⟩⟩, ?_, fun hw => ?_⟩
    · obtain ⟨y, hy⟩ := hget j p hp
      obtain ⟨⟨c, hk, hcl, hcc⟩, _⟩ := hq j y p hy hp
      exact ⟨c, hcl, hk, fun i u hu' => by rw [← add_add]; exact hcc i u hu'⟩
    · have h1 := bulk_all_le l (elems.map (·.1)) (by simp; omega) (fun i b y hb hy => by
        simp only [List.getElem?_map, Option.map_eq_some_iff] at hy
        obtain ⟨z, hz, rfl⟩ := hy
        exact (hq i z b hz hb).2.1)
      simp only [Rows.uptoBulk]
      omega
    · rw [DataW.weights, hu] at hw
      simp only [hB] at hw
      simp only [List.all_cons, Bool.and_eq_true, List.all_append, decide_eq_true_eq, List.length_map, hlen] at hw
      refine ⟨?_, fun b hb => ?_⟩
      · rw [hll]
        have := hw.1
        unfold reachBytes at this
        exact Nat.le_trans (Nat.mul_le_mul_right _ (by omega)) this
      · obtain ⟨i, hi⟩ := List.getElem?_of_mem hb
        obtain ⟨y, hy⟩ := hget i b hi
        exact (hq i y b hy hi).2.2 (weights_all_at P e _ hw.2.1 i y.1 (by simp [hy]))
theorem arg_struct {α : Type} {H : Type} {enc : TypeId × Value → H} {P : Program} {W : World} {base b0 : Nat} {r : Reach} {spare : Nat → Bool} {held : Bool} {T : TypeId} {fs : Array Field} {d : Kd α} {m : α → Nat} {ok : α → Prop} {v : Value} {x : DataW H} {ps : List MemPlace}
    (hu : P.underlying T = some (.struct fs)) (ho : Opens P T d m ok) (hv : Value.okWide P W r b0 T v) (h : DataW.Trod enc P W base spare held T v x ps) :
    ∃ (a : α) (cs : List Value), v = .agg cs.toArray ∧ d.K W a cs ∧ m a ≤ Rows.uptoBulk x ∧ ((DataW.weights P T x).all (· ≤ reachBytes) = true → ok a) := by
  obtain ⟨cs, rfl, _⟩ := okWide_struct hu hv
  obtain ⟨fuel, hf⟩ := h
  obtain ⟨a, hK, hm, hok⟩ := ho H enc W base spare held fuel _ _ hf
  exact ⟨a, cs.toList, rfl, hK, hm, hok⟩
theorem trod_lt' {H : Type} {enc : TypeId × Value → H} {P : Program} {W : World} {spare : Nat → Bool} {held : Bool} {T : TypeId} {v : Value} {x : DataW H} {ps : List MemPlace}
    (h : DataW.Trod enc P W 0 spare held T v x ps) : ∀ y ∈ ps, y.block < W.heap.size := by
  obtain ⟨m, hm⟩ := h
  exact DataW.trod_lt m _ _ _ hm
end Go.Proofs.YtmimipgmhgalaaaGreatDoor.Open
end
section
namespace Go.Proofs.YtmimipgmhgalaaaGreatDoor.PAll
open Go.RowKit Go.Proofs.YtmimipgmhgalaaaGreatDoorW.PrintWords Go.Proofs.YtmimipgmhgalaaaGreatDoor.Open
set_option linter.unusedVariables false
set_option linter.unusedSimpArgs false
def ascZ : List Int := (List.range 128).map fun j => (ascT j : Int)
theorem asc_of_reads {W : World} (h : Lib.VarReads Tryz.prog W "unicode.asciiFold" Rows.laid_unicode_asciiFold) : ∀ j, j < 128 → W.cell? ⟨0, j, none⟩ = some (.int .u16 (ascT j : Int)) := by
  obtain ⟨g', t', cs, fuel, p, hg', ht', hvar, hr⟩ := h
  obtain rfl := Option.some.inj ((show Tryz.prog.globalNamed "unicode.asciiFold" = some 0 by kernel_rfl).symm.trans hg')
  obtain rfl := Option.some.inj ((show (Tryz.prog.globals[0]?).map (·.type) = some 175 by kernel_rfl).symm.trans ht')
  rw [show (Rows.laid_unicode_asciiFold : DataW Unit) = Lib.tabData .u16 ascZ by kernel_rfl] at hr
  have hc := Lib.cells_of_tab Tryz.underlying175 Tryz.underlying174 (by kernel_rfl) (by kernel_rfl) hr
  have hT : Lib.TabIs Tryz.prog W "unicode.asciiFold" .u16 ascZ := by unfold Lib.TabIs; rw [hvar, ← hc]
  intro j hj
  have := hT.cell (show Tryz.prog.globalNamed "unicode.asciiFold" = some 0 by kernel_rfl) j (by simp [ascZ]; exact hj)
  rw [show ascZ.getD j 0 = (ascT j : Int) by simp [ascZ, List.getD_eq_getElem?_getD, hj]] at this
  exact this
theorem orb_of_reads {W : World} (h : Lib.VarReads Tryz.prog W "unicode.caseOrbit" Rows.laid_unicode_caseOrbit) : ∃ b o cap sp, W.cell? ⟨1, 0, none⟩ = some (.slice (some ⟨b, o, sp⟩) 94 cap) ∧ W.cell? ⟨b, o + 94, none⟩ = some (.int .u16 966) ∧ W.cell? ⟨b, o + 46, none⟩ = some (.int .u16 837) ∧ W.cell? ⟨b, o + 22, none⟩ = some (.int .u16 452) ∧ W.cell? ⟨b, o + 10, none⟩ = some (.int .u16 197) ∧
    W.cell? ⟨b, o + 16, none⟩ = some (.int .u16 304) ∧ W.cell? ⟨b, o + 20, none⟩ = some (.int .u16 383) ∧ W.cell? ⟨b, o + 18, none⟩ = some (.int .u16 305) ∧ W.cell? ⟨b, o + 20 + 1, none⟩ = some (.int .u16 83) := by
  obtain ⟨g', t', cs, fuel, p, hg', ht', hvar, hr⟩ := h
  obtain rfl := Option.some.inj ((show Tryz.prog.globalNamed "unicode.caseOrbit" = some 1 by kernel_rfl).symm.trans hg')
  obtain rfl := Option.some.inj ((show (Tryz.prog.globals[1]?).map (·.type) = some 176 by kernel_rfl).symm.trans ht')
  rcases DataW.trod_slice Tryz.underlying176 hr with ⟨_, hx⟩ | ⟨a, len, cap, elems, rest, n, _, hcs0, hx, hb, hl, hm, hlen, hel, hsp, hns⟩
  · exact absurd (congrArg Prod.fst hx) (by unfold Rows.laid_unicode_caseOrbit; intro e; cases e)
  have hx1 := congrArg Prod.fst hx
  unfold Rows.laid_unicode_caseOrbit at hx1
  injection hx1 with he _
  have hlen94 : len = 94 := by
    have := congrArg List.length he
    rw [List.length_map, hlen] at this
    exact this.symm
  subst hlen94
  have hcell := World.var?_cell (show Tryz.prog.globalNamed "unicode.caseOrbit" = some 1 by kernel_rfl) hvar 0
  have key : ∀ (i : Nat) (A B : Int), i < 94 → (elems.map (·.1))[i]? = some (.agg ([A, B].map fun z => .lit (.int .u16 z))) → W.cell? ((a.add (i * 2)).add 0) = some (.int .u16 A) ∧ W.cell? ((a.add (i * 2)).add 1) = some (.int .u16 B) := by
    intro i A B hi hd
    have h1 := hel i hi
    rw [List.getElem?_map, Option.map_eq_some_iff] at hd
    obtain ⟨y, hy, hyd⟩ := hd
    rw [hy, Option.bind_eq_some_iff] at h1
    obtain ⟨c, hcs, htr⟩ := h1
    obtain ⟨y1, y2⟩ := y
    dsimp only at hyd
    subst hyd
    rw [show Tryz.prog.cellsOf 178 = 2 by kernel_rfl] at hcs
    have hc := Lib.ints_of_struct (zs := [A, B]) Tryz.underlying178 (by
      intro j f hf
      match j, hf with
      | 0, hf => obtain rfl := Option.some.inj hf; exact ⟨Tryz.underlying174, rfl, by kernel_rfl⟩
      | 1, hf => obtain rfl := Option.some.inj hf; exact ⟨Tryz.underlying174, rfl, by kernel_rfl⟩
      | j + 2, hf => cases hf) (by kernel_rfl) htr
    obtain ⟨_, hcc⟩ := cells?_at hcs
    subst hc
    exact ⟨hcc 0 _ rfl, hcc 1 _ rfl⟩
  rw [← he] at key
  obtain ⟨b, o, sp⟩ := a
  refine ⟨b, o, cap, sp, ?_, ?_⟩
  · rw [hcell, ← Array.getElem?_toList, hcs0]; rfl
  · exact ⟨(key 47 966 981 (by decide) rfl).1, (key 23 837 921 (by decide) rfl).1, (key 11 452 453 (by decide) rfl).1, (key 5 197 229 (by decide) rfl).1, (key 8 304 304 (by decide) rfl).1, (key 10 383 83 (by decide) rfl).1, (key 9 305 305 (by decide) rfl).1, (key 10 383 83 (by decide) rfl).2⟩
theorem foldT_of_laid {W : World} {l : List (String × DataW Unit)} (h : laidMet Tryz.prog l W) (h1 : ("unicode.asciiFold", Rows.laid_unicode_asciiFold) ∈ l) (h2 : ("unicode.caseOrbit", Rows.laid_unicode_caseOrbit) ∈ l) : FoldT W :=
  ⟨asc_of_reads (Lib.laidMet.reads h h1), orb_of_reads (Lib.laidMet.reads h h2)⟩
end Go.Proofs.YtmimipgmhgalaaaGreatDoor.PAll
end
section
namespace Go.Proofs.YtmimipgmhgalaaaGreatDoor.PAll
open Go.RowKit Go.Proofs.YtmimipgmhgalaaaGreatDoorW.PrintWords Go.Proofs.YtmimipgmhgalaaaGreatDoorW.PrintLast Go.Proofs.YtmimipgmhgalaaaGreatDoorW.PrintMore
attribute [local go_sem] max2_int min2_int max_two min_two max_three min_three max_four min_four
set_option linter.unusedVariables false
set_option linter.unusedSimpArgs false
def client_proven.j0 : Nat → Int → ByteArray → ByteArray → ByteArray → Int → Bool → ByteArray → List ByteArray → Option (ByteArray × ByteArray × Int × Bool × ByteArray × List ByteArray × Int × Int)
 | 0, _, _, _, _, _, _, _, _ => none
 | k + 1, x1, x2, x225000, x225001, x225002, x225003, x225004, x225005 => (client_same.f x225001 x2).bind fun t226 => (if t226 = true then (if x225001.toList = ([] : List UInt8) then (some (x225000, x225001, x225002, x225003, x225004, x225005, 0, 0)) else (some (x225000, x225001, x225002, x225003, x225004, x225005, x1, 0))) else (some ((⟨#[]⟩ : ByteArray), (⟨#[]⟩ : ByteArray), 0, false, (⟨#[]⟩ : ByteArray), ([] : List ByteArray), 0, 112)))
def client_proven.f (k : Nat) (a0_0 : ByteArray) (a0_1 : ByteArray) (a0_2 : Int) (a0_3 : Bool) (a0_4 : ByteArray) (l0_5 : List ByteArray) (a1 : Int) (a2 : ByteArray) : Option (ByteArray × ByteArray × Int × Bool × ByteArray × List ByteArray × Int × Int) := if a1 = 1 then (if a0_1.toList = ([] : List UInt8) then (some ((⟨#[]⟩ : ByteArray), (⟨#[]⟩ : ByteArray), 0, false, (⟨#[]⟩ : ByteArray), ([] : List ByteArray), 0, 112)) else (client_proven.j0 k a1 a2 a0_0 a0_1 a0_2 a0_3 a0_4 l0_5)) else (if a1 = 2 then (client_proven.j0 k a1 a2 a0_0 a0_1 a0_2 a0_3 a0_4 l0_5) else (if a0_1.toList = ([] : List UInt8) then (some (a0_0, a0_1, a0_2, a0_3, a0_4, l0_5, 0, 0)) else (some (a0_0, a0_1, a0_2, a0_3, a0_4, l0_5, a1, 0))))
set_option maxHeartbeats 8000000 in
set_option maxRecDepth 100000 in
theorem client_proven.calls (k : Nat) (a0_0 : ByteArray) (a0_1 : ByteArray) (a0_2 : Int) (a0_3 : Bool) (a0_4 : ByteArray) (P0_5_ : Nat → Prop) (u9000_ : Value) (l0_5 : List ByteArray) (a1 : Int) (a2 : ByteArray) (r1 : ByteArray) (r2 : ByteArray) (r3 : Int) (r4 : Bool) (r5 : ByteArray) (r6 : List ByteArray) (r7 : Int) (r8 : Int) (w0 w : World) (hB : Below w0.heap.size w0 w) (ho0_5 : Kd.R Kd.string 9 w w0.heap.size P0_5_ u9000_ l0_5) (h : client_proven.f k a0_0 a0_1 a0_2 a0_3 a0_4 l0_5 a1 a2 = some (r1, r2, r3, r4, r5, r6, r7, r8)) :
 Calls Tryz.prog 70 #[.agg #[.string a0_0, .string a0_1, .int .i64 a0_2, .bool a0_3, .string a0_4, u9000_], .int .i64 a1, .string a2] w fun e w' => ∃ v5_ : Value, e = .returned (.tuple #[.agg #[.string r1, .string r2, .int .i64 r3, .bool r4, .string r5, v5_], .int .i64 r7, .int .i64 r8]) ∧ Kd.R Kd.string 9 w' w0.heap.size (fun k_ => (P0_5_ k_ ∨ w.heap.size ≤ k_)) v5_ r6 ∧ Below w0.heap.size w0 w' ∧ Kept w w' (fun k_ => P0_5_ k_) := by
 have hu40 := Tryz.underlying40
 have HO0_5 := Aside0.mk (show Kd.R Kd.string 9 w w0.heap.size (fun k_ => (P0_5_ k_ ∨ w.heap.size ≤ k_)) u9000_ l0_5 from Kd.R_mono ho0_5 (fun k_ hk => (.inl hk)))
 have HK := Aside0.mk (Kept.refl w (fun k_ => P0_5_ k_))
 have HW0 := Aside0.mk hB.size
 have HB := Aside0.mk hB
 clear hB
 have H : (if a1 = 1 then (if a0_1.toList = ([] : List UInt8) then (some ((⟨#[]⟩ : ByteArray), (⟨#[]⟩ : ByteArray), 0, false, (⟨#[]⟩ : ByteArray), ([] : List ByteArray), 0, 112)) else (client_proven.j0 k a1 a2 a0_0 a0_1 a0_2 a0_3 a0_4 l0_5)) else (if a1 = 2 then (client_proven.j0 k a1 a2 a0_0 a0_1 a0_2 a0_3 a0_4 l0_5) else (if a0_1.toList = ([] : List UInt8) then (some (a0_0, a0_1, a0_2, a0_3, a0_4, l0_5, 0, 0)) else (some (a0_0, a0_1, a0_2, a0_3, a0_4, l0_5, a1, 0))))) = some (r1, r2, r3, r4, r5, r6, r7, r8) := h
 clear h
 have HC4 := Aside0.mk H
 clear H
 obtain ⟨Ao5, co5, eo5⟩ := Kd.R_slice HO0_5.out
 subst eo5
 go_enter Tryz.func70, Tryz.ntmps70
 go_upto_block 2 with (first | ((with_reducible refine gate_dst (N := 3) rfl ?_); refine box_event (by rfl) (N := 3) (by rfl) (cs := #[.string a0_0, .string a0_1, .int .i64 a0_2, .bool a0_3, .string a0_4, .slice Ao5 l0_5.length co5]) (t := 40) (by go_simp) ?_; intro gb224 hg w6 hbox hb; replace HO0_5 := Aside0.mk (Kd.R_below HO0_5.out hb); have BK224 := Aside0.mk hbox; have GW224 := Aside0.mk ((by rw [hg]; exact (by exact HK.out.1) : w.heap.size ≤ gb224)); replace HK := Aside0.mk (Kept.below (S := (fun k_ => P0_5_ k_)) HK.out hb); have GE224 := Aside0.mk ((by rw [hg]; exact (below_size HB.out) : w0.heap.size ≤ gb224)); replace HB := Aside0.mk (below_step HB.out hb); clear hb hbox hg) | ((with_reducible refine gate_dst (N := 6) rfl ?_); refine box_event (by rfl) (N := 6) (by rfl) (cs := #[.string (⟨#[]⟩ : ByteArray), .string (⟨#[]⟩ : ByteArray), .int .i64 0, .bool false, .string (⟨#[]⟩ : ByteArray), .slice none 0 0]) (t := 40) (by go_simp) ?_; intro gb225 hg w7 hbox hb; replace HO0_5 := Aside0.mk (Kd.R_below HO0_5.out hb); have BK225 := Aside0.mk hbox; have GW225 := Aside0.mk ((by rw [hg]; exact (by exact HK.out.1) : w.heap.size ≤ gb225)); replace HK := Aside0.mk (Kept.below (S := (fun k_ => P0_5_ k_)) (by repeat ((with_reducible (exact HK.out)))) hb); have GE225 := Aside0.mk ((by rw [hg]; exact (below_size HB.out) : w0.heap.size ≤ gb225)); replace HB := Aside0.mk (below_step HB.out hb); have NB224_225 := Aside0.mk ((by rw [hg]; exact Nat.ne_of_lt (blk_lt BK224.out) : gb224 ≠ gb225)); have NB225_224 := Aside0.mk ((by rw [hg]; exact Nat.ne_of_gt (blk_lt BK224.out) : gb225 ≠ gb224)); replace BK224 := Aside0.mk (blk_below BK224.out hb); clear hb hbox hg))
 go_cut [] (fun wc => ∃ (kq : Nat) (x226000_3 : ByteArray) (x226001_3 : ByteArray) (x226002_3 : Int) (x226003_3 : Bool) (x226004_3 : ByteArray), Aside0 (client_proven.j0 kq a1 a2 a0_0 a0_1 a0_2 a0_3 a0_4 l0_5 = some (r1, r2, r3, r4, r5, r6, r7, r8)) ∧ Aside0 (kq ≤ k) ∧ Aside0 (Kd.R Kd.string 9 wc w0.heap.size (fun k_ => (P0_5_ k_ ∨ w.heap.size ≤ k_)) (.slice Ao5 l0_5.length co5) l0_5) ∧ Aside0 (wc.heap[gb224]? = some (.cells #[.string a0_0, .string a0_1, .int .i64 a0_2, .bool a0_3, .string a0_4, (.slice Ao5 l0_5.length co5)] 40 (0, 0))) ∧ Aside0 (wc.heap[gb225]? = some (.cells #[.string x226000_3, .string x226001_3, .int .i64 x226002_3, .bool x226003_3, .string x226004_3, (.slice none 0 0)] 40 (0, 0))) ∧ Aside0 (Kept w wc (fun k_ => P0_5_ k_)) ∧ Aside0 (Below w0.heap.size w0 wc))
 case first =>
  have H := HC4.out
  clear HC4
  by_cases c8 : a1 = 1
  · rw [if_pos c8] at H
    have c8b0 : (a1 == 1) = true := beq_iff_eq.mpr c8
    have c8b1 : (a1 != 1) = false := bne_eq_false_iff_eq.mpr c8
    clear c8
    by_cases c9 : a0_1.toList = ([] : List UInt8)
    · rw [if_pos c9] at H
      have c9b0 : (a0_1.toList == ([] : List UInt8)) = true := beq_iff_eq.mpr c9
      have c9b1 : (a0_1.toList != ([] : List UInt8)) = false := bne_eq_false_iff_eq.mpr c9
      clear c9
      simp only [Option.some.injEq, Prod.mk.injEq] at H
      obtain ⟨rfl, rfl, rfl, rfl, rfl, rfl, rfl, rfl⟩ := H
      have hnb10 := NB224_225.out
      have hnc10 := NB225_224.out
      obtain ⟨hcz11_0, hcz11_1, hcz11_2, hcz11_3, hcz11_4, hcz11_5, hfz11_0, hfz11_1, hfz11_2, hfz11_3, hfz11_4, hfz11_5⟩ := cz6_ BK224.out
      obtain ⟨hcz12_0, hcz12_1, hcz12_2, hcz12_3, hcz12_4, hcz12_5, hfz12_0, hfz12_1, hfz12_2, hfz12_3, hfz12_4, hfz12_5⟩ := cz6_ BK225.out
      go_wp2
      refine bodyPost_ret (results_ctt rfl _ _ gb225 40 #[.string (⟨#[]⟩ : ByteArray), .string (⟨#[]⟩ : ByteArray), .int .i64 0, .bool false, .string (⟨#[]⟩ : ByteArray), .slice none 0 0] (0, 0) _ rfl (put6_ BK225.out _ _ _ _ _ _) Tryz.underlying40 rfl (by kernel_rfl)) rfl ?_
      exact ⟨_, rfl, by (exact Kd.R_nil _ _ _ _ _), by (repeat (with_reducible first | exact HB.out | refine below_set ?_ GE225.out)), by repeat ((with_reducible first | exact HK.out | refine Kept.setCell ?_ (.inr GW225.out) _))⟩
    · rw [if_neg c9] at H
      have c9b0 : (a0_1.toList == ([] : List UInt8)) = false := beq_eq_false_iff_ne.mpr c9
      have c9b1 : (a0_1.toList != ([] : List UInt8)) = true := bne_iff_ne.mpr c9
      have H' := Aside0.mk H
      clear H
      have hnb13 := NB224_225.out
      have hnc13 := NB225_224.out
      obtain ⟨hcz14_0, hcz14_1, hcz14_2, hcz14_3, hcz14_4, hcz14_5, hfz14_0, hfz14_1, hfz14_2, hfz14_3, hfz14_4, hfz14_5⟩ := cz6_ BK224.out
      go_wp2
      go_meet
      case rel => exact ⟨_, ((⟨#[]⟩ : ByteArray)), ((⟨#[]⟩ : ByteArray)), (0), (false), ((⟨#[]⟩ : ByteArray)), H', ⟨by (omega)⟩, ⟨HO0_5.out⟩, ⟨BK224.out⟩, ⟨BK225.out⟩, ⟨by repeat ((with_reducible (exact HK.out)))⟩, ⟨HB.out⟩⟩
  · rw [if_neg c8] at H
    have c8b0 : (a1 == 1) = false := beq_eq_false_iff_ne.mpr c8
    have c8b1 : (a1 != 1) = true := bne_iff_ne.mpr c8
    by_cases c15 : a1 = 2
    · rw [if_pos c15] at H
      have c15b0 : (a1 == 2) = true := beq_iff_eq.mpr c15
      have c15b1 : (a1 != 2) = false := bne_eq_false_iff_eq.mpr c15
      clear c15
      have H' := Aside0.mk H
      clear H
      go_wp2
      go_meet
      case rel => exact ⟨_, ((⟨#[]⟩ : ByteArray)), ((⟨#[]⟩ : ByteArray)), (0), (false), ((⟨#[]⟩ : ByteArray)), H', ⟨by (omega)⟩, ⟨HO0_5.out⟩, ⟨BK224.out⟩, ⟨BK225.out⟩, ⟨by repeat ((with_reducible (exact HK.out)))⟩, ⟨HB.out⟩⟩
    · rw [if_neg c15] at H
      have c15b0 : (a1 == 2) = false := beq_eq_false_iff_ne.mpr c15
      have c15b1 : (a1 != 2) = true := bne_iff_ne.mpr c15
      by_cases c16 : a0_1.toList = ([] : List UInt8)
      · rw [if_pos c16] at H
        have c16b0 : (a0_1.toList == ([] : List UInt8)) = true := beq_iff_eq.mpr c16
        have c16b1 : (a0_1.toList != ([] : List UInt8)) = false := bne_eq_false_iff_eq.mpr c16
        clear c16
        simp only [Option.some.injEq, Prod.mk.injEq] at H
        obtain ⟨rfl, rfl, rfl, rfl, rfl, rfl, rfl, rfl⟩ := H
        have hnb17 := NB224_225.out
        have hnc17 := NB225_224.out
        obtain ⟨hcz18_0, hcz18_1, hcz18_2, hcz18_3, hcz18_4, hcz18_5, hfz18_0, hfz18_1, hfz18_2, hfz18_3, hfz18_4, hfz18_5⟩ := cz6_ BK224.out
        obtain ⟨hcz19_0, hcz19_1, hcz19_2, hcz19_3, hcz19_4, hcz19_5, hfz19_0, hfz19_1, hfz19_2, hfz19_3, hfz19_4, hfz19_5⟩ := cz6_ BK225.out
        go_wp2
        refine bodyPost_ret (results_ctt rfl _ _ gb225 40 #[.string a0_0, .string a0_1, .int .i64 a0_2, .bool a0_3, .string a0_4, .slice Ao5 l0_5.length co5] (0, 0) _ rfl (put6_ BK225.out _ _ _ _ _ _) Tryz.underlying40 rfl (by kernel_rfl)) rfl ?_
        exact ⟨_, rfl, by (with_reducible repeat (first | apply Kd.R_alloc  | apply Kd.R_drewN  | apply Kd.R_drew)); exact Kd.R_mono (R_far6 (Kd.R_types HO0_5.out BK225.out (by decide)) (fun _ hk => hk.2)) (fun _ hk => hk.1), by (repeat (with_reducible first | exact HB.out | refine below_set ?_ GE225.out)), by repeat ((with_reducible first | exact HK.out | refine Kept.setCell ?_ (.inr GW225.out) _))⟩
      · rw [if_neg c16] at H
        have c16b0 : (a0_1.toList == ([] : List UInt8)) = false := beq_eq_false_iff_ne.mpr c16
        have c16b1 : (a0_1.toList != ([] : List UInt8)) = true := bne_iff_ne.mpr c16
        simp only [Option.some.injEq, Prod.mk.injEq] at H
        obtain ⟨rfl, rfl, rfl, rfl, rfl, rfl, rfl, rfl⟩ := H
        have hnb20 := NB224_225.out
        have hnc20 := NB225_224.out
        obtain ⟨hcz21_0, hcz21_1, hcz21_2, hcz21_3, hcz21_4, hcz21_5, hfz21_0, hfz21_1, hfz21_2, hfz21_3, hfz21_4, hfz21_5⟩ := cz6_ BK224.out
        obtain ⟨hcz22_0, hcz22_1, hcz22_2, hcz22_3, hcz22_4, hcz22_5, hfz22_0, hfz22_1, hfz22_2, hfz22_3, hfz22_4, hfz22_5⟩ := cz6_ BK225.out
        go_wp2
        refine bodyPost_ret (results_ctt rfl _ _ gb225 40 #[.string a0_0, .string a0_1, .int .i64 a0_2, .bool a0_3, .string a0_4, .slice Ao5 l0_5.length co5] (0, 0) _ rfl (put6_ BK225.out _ _ _ _ _ _) Tryz.underlying40 rfl (by kernel_rfl)) rfl ?_
        exact ⟨_, rfl, by (with_reducible repeat (first | apply Kd.R_alloc  | apply Kd.R_drewN  | apply Kd.R_drew)); exact Kd.R_mono (R_far6 (Kd.R_types HO0_5.out BK225.out (by decide)) (fun _ hk => hk.2)) (fun _ hk => hk.1), by (repeat (with_reducible first | exact HB.out | refine below_set ?_ GE225.out)), by repeat ((with_reducible first | exact HK.out | refine Kept.setCell ?_ (.inr GW225.out) _))⟩
 case rest =>
  clear HC4
  obtain ⟨kq, x226000_3, x226001_3, x226002_3, x226003_3, x226004_3, HA, HJ3, HO_225005, BK224, BK225, HK, HB⟩ := hcut
  cases kq with
  | zero => exact absurd HA.out (by simp [client_proven.j0])
  | succ kj3 =>
   have H := HA.out
   clear HA
   simp only [client_proven.j0] at H
   replace H := Option.bind_eq_some_iff.mp H
   obtain ⟨t226, A230, H⟩ := H
   replace H : (if t226 = true then (if a0_1.toList = ([] : List UInt8) then (some (a0_0, a0_1, a0_2, a0_3, a0_4, l0_5, 0, 0)) else (some (a0_0, a0_1, a0_2, a0_3, a0_4, l0_5, a1, 0))) else (some ((⟨#[]⟩ : ByteArray), (⟨#[]⟩ : ByteArray), 0, false, (⟨#[]⟩ : ByteArray), ([] : List ByteArray), 0, 112))) = some (r1, r2, r3, r4, r5, r6, r7, r8) := H
   have A23 := Aside0.mk A230
   clear A230
   by_cases c24 : t226 = true
   · subst c24
     have H1 : (if a0_1.toList = ([] : List UInt8) then (some (a0_0, a0_1, a0_2, a0_3, a0_4, l0_5, 0, 0)) else (some (a0_0, a0_1, a0_2, a0_3, a0_4, l0_5, a1, 0))) = some (r1, r2, r3, r4, r5, r6, r7, r8) := by rw [if_pos rfl] at H; exact H
     clear H
     have H := H1
     clear H1
     by_cases c25 : a0_1.toList = ([] : List UInt8)
     · rw [if_pos c25] at H
       have c25b0 : (a0_1.toList == ([] : List UInt8)) = true := beq_iff_eq.mpr c25
       have c25b1 : (a0_1.toList != ([] : List UInt8)) = false := bne_eq_false_iff_eq.mpr c25
       clear c25
       simp only [Option.some.injEq, Prod.mk.injEq] at H
       obtain ⟨rfl, rfl, rfl, rfl, rfl, rfl, rfl, rfl⟩ := H
       have hnb26 := NB224_225.out
       have hnc26 := NB225_224.out
       obtain ⟨hcz27_0, hcz27_1, hcz27_2, hcz27_3, hcz27_4, hcz27_5, hfz27_0, hfz27_1, hfz27_2, hfz27_3, hfz27_4, hfz27_5⟩ := cz6_ BK224.out
       go_wp2_with (first | ((with_reducible refine gate_callee (f := 109) rfl ?_); refine goesL_ (some 21) rfl rfl Tryz.func109 (by kernel_rfl) rfl #[.string a0_1, .string a2] rfl (by ((try simp only [List.map_toArray, List.map_cons, List.map_nil]); (rfl))) ?_; (with_reducible refine (client_same.calls a0_1 a2 true _ A23.out).mono ?_); rintro e w28 ⟨rfl, hb⟩; refine ⟨_, rfl, ?_⟩; replace HO_225005 := Aside0.mk (Kd.R_below HO_225005.out hb); replace BK224 := Aside0.mk (blk_below BK224.out hb); replace BK225 := Aside0.mk (blk_below BK225.out hb); replace HK := Aside0.mk (Kept.below (S := (fun k_ => P0_5_ k_)) (by repeat ((with_reducible (exact HK.out)))) hb); replace HB := Aside0.mk (below_step HB.out hb); clear hb; obtain ⟨hcz29_0, hcz29_1, hcz29_2, hcz29_3, hcz29_4, hcz29_5, hfz29_0, hfz29_1, hfz29_2, hfz29_3, hfz29_4, hfz29_5⟩ := cz6_ BK224.out; obtain ⟨hcz30_0, hcz30_1, hcz30_2, hcz30_3, hcz30_4, hcz30_5, hfz30_0, hfz30_1, hfz30_2, hfz30_3, hfz30_4, hfz30_5⟩ := cz6_ BK225.out))
       refine bodyPost_ret (results_ctt rfl _ _ gb225 40 #[.string a0_0, .string a0_1, .int .i64 a0_2, .bool a0_3, .string a0_4, .slice Ao5 l0_5.length co5] (0, 0) _ rfl (put6_ BK225.out _ _ _ _ _ _) Tryz.underlying40 rfl (by kernel_rfl)) rfl ?_
       exact ⟨_, rfl, by (with_reducible repeat (first | apply Kd.R_alloc  | apply Kd.R_drewN  | apply Kd.R_drew)); exact Kd.R_mono (R_far6 (Kd.R_types HO_225005.out BK225.out (by decide)) (fun _ hk => hk.2)) (fun _ hk => hk.1), by (repeat (with_reducible first | exact HB.out | refine below_set ?_ GE225.out)), by repeat ((with_reducible first | exact HK.out | refine Kept.setCell ?_ (.inr GW225.out) _))⟩
     · rw [if_neg c25] at H
       have c25b0 : (a0_1.toList == ([] : List UInt8)) = false := beq_eq_false_iff_ne.mpr c25
       have c25b1 : (a0_1.toList != ([] : List UInt8)) = true := bne_iff_ne.mpr c25
       simp only [Option.some.injEq, Prod.mk.injEq] at H
       obtain ⟨rfl, rfl, rfl, rfl, rfl, rfl, rfl, rfl⟩ := H
       have hnb31 := NB224_225.out
       have hnc31 := NB225_224.out
       obtain ⟨hcz32_0, hcz32_1, hcz32_2, hcz32_3, hcz32_4, hcz32_5, hfz32_0, hfz32_1, hfz32_2, hfz32_3, hfz32_4, hfz32_5⟩ := cz6_ BK224.out
       go_wp2_with (first | ((with_reducible refine gate_callee (f := 109) rfl ?_); refine goesL_ (some 21) rfl rfl Tryz.func109 (by kernel_rfl) rfl #[.string a0_1, .string a2] rfl (by ((try simp only [List.map_toArray, List.map_cons, List.map_nil]); (rfl))) ?_; (with_reducible refine (client_same.calls a0_1 a2 true _ A23.out).mono ?_); rintro e w33 ⟨rfl, hb⟩; refine ⟨_, rfl, ?_⟩; replace HO_225005 := Aside0.mk (Kd.R_below HO_225005.out hb); replace BK224 := Aside0.mk (blk_below BK224.out hb); replace BK225 := Aside0.mk (blk_below BK225.out hb); replace HK := Aside0.mk (Kept.below (S := (fun k_ => P0_5_ k_)) (by repeat ((with_reducible (exact HK.out)))) hb); replace HB := Aside0.mk (below_step HB.out hb); clear hb; obtain ⟨hcz34_0, hcz34_1, hcz34_2, hcz34_3, hcz34_4, hcz34_5, hfz34_0, hfz34_1, hfz34_2, hfz34_3, hfz34_4, hfz34_5⟩ := cz6_ BK224.out; obtain ⟨hcz35_0, hcz35_1, hcz35_2, hcz35_3, hcz35_4, hcz35_5, hfz35_0, hfz35_1, hfz35_2, hfz35_3, hfz35_4, hfz35_5⟩ := cz6_ BK225.out))
       refine bodyPost_ret (results_ctt rfl _ _ gb225 40 #[.string a0_0, .string a0_1, .int .i64 a0_2, .bool a0_3, .string a0_4, .slice Ao5 l0_5.length co5] (0, 0) _ rfl (put6_ BK225.out _ _ _ _ _ _) Tryz.underlying40 rfl (by kernel_rfl)) rfl ?_
       exact ⟨_, rfl, by (with_reducible repeat (first | apply Kd.R_alloc  | apply Kd.R_drewN  | apply Kd.R_drew)); exact Kd.R_mono (R_far6 (Kd.R_types HO_225005.out BK225.out (by decide)) (fun _ hk => hk.2)) (fun _ hk => hk.1), by (repeat (with_reducible first | exact HB.out | refine below_set ?_ GE225.out)), by repeat ((with_reducible first | exact HK.out | refine Kept.setCell ?_ (.inr GW225.out) _))⟩
   · replace c24 := Bool.eq_false_iff.mpr c24
     subst c24
     have H1 : (some ((⟨#[]⟩ : ByteArray), (⟨#[]⟩ : ByteArray), 0, false, (⟨#[]⟩ : ByteArray), ([] : List ByteArray), 0, 112)) = some (r1, r2, r3, r4, r5, r6, r7, r8) := by rw [if_neg (show ¬ (false = true) by decide)] at H; exact H
     clear H
     have H := H1
     clear H1
     simp only [Option.some.injEq, Prod.mk.injEq] at H
     obtain ⟨rfl, rfl, rfl, rfl, rfl, rfl, rfl, rfl⟩ := H
     have hnb36 := NB224_225.out
     have hnc36 := NB225_224.out
     obtain ⟨hcz37_0, hcz37_1, hcz37_2, hcz37_3, hcz37_4, hcz37_5, hfz37_0, hfz37_1, hfz37_2, hfz37_3, hfz37_4, hfz37_5⟩ := cz6_ BK224.out
     go_wp2_with (first | ((with_reducible refine gate_callee (f := 109) rfl ?_); refine goesL_ (some 21) rfl rfl Tryz.func109 (by kernel_rfl) rfl #[.string a0_1, .string a2] rfl (by ((try simp only [List.map_toArray, List.map_cons, List.map_nil]); (rfl))) ?_; (with_reducible refine (client_same.calls a0_1 a2 false _ A23.out).mono ?_); rintro e w38 ⟨rfl, hb⟩; refine ⟨_, rfl, ?_⟩; replace HO_225005 := Aside0.mk (Kd.R_below HO_225005.out hb); replace BK224 := Aside0.mk (blk_below BK224.out hb); replace BK225 := Aside0.mk (blk_below BK225.out hb); replace HK := Aside0.mk (Kept.below (S := (fun k_ => P0_5_ k_)) (by repeat ((with_reducible (exact HK.out)))) hb); replace HB := Aside0.mk (below_step HB.out hb); clear hb; obtain ⟨hcz39_0, hcz39_1, hcz39_2, hcz39_3, hcz39_4, hcz39_5, hfz39_0, hfz39_1, hfz39_2, hfz39_3, hfz39_4, hfz39_5⟩ := cz6_ BK225.out))
     refine bodyPost_ret (results_ctt rfl _ _ gb225 40 #[.string (⟨#[]⟩ : ByteArray), .string (⟨#[]⟩ : ByteArray), .int .i64 0, .bool false, .string (⟨#[]⟩ : ByteArray), .slice none 0 0] (0, 0) _ rfl (put6_ BK225.out _ _ _ _ _ _) Tryz.underlying40 rfl (by kernel_rfl)) rfl ?_
     exact ⟨_, rfl, by (exact Kd.R_nil _ _ _ _ _), by (repeat (with_reducible first | exact HB.out | refine below_set ?_ GE225.out)), by repeat ((with_reducible first | exact HK.out | refine Kept.setCell ?_ (.inr GW225.out) _))⟩
end Go.Proofs.YtmimipgmhgalaaaGreatDoor.PAll
end
section
namespace Go.Proofs.YtmimipgmhgalaaaGreatDoor.PAll
open Go.RowKit Go.Proofs.YtmimipgmhgalaaaGreatDoorW.PrintWords Go.Proofs.YtmimipgmhgalaaaGreatDoorW.PrintLast Go.Proofs.YtmimipgmhgalaaaGreatDoorW.PrintMore
attribute [local go_sem] max2_int min2_int max_two min_two max_three min_three max_four min_four
set_option linter.unusedVariables false
set_option linter.unusedSimpArgs false
mutual
def client_Authenticate.j0 : Nat → List (S40) → ByteArray → ByteArray → Bool → ByteArray → Bool → Bool → Option (ByteArray × ByteArray × Int × Bool × ByteArray × List ByteArray × Int × Int)
 | 0, _, _, _, _, _, _, _ => none
 | k + 1, x0, x1, x9, x10, x12, x13, x38 => if x38 = true then (some ((⟨#[]⟩ : ByteArray), (⟨#[]⟩ : ByteArray), 0, false, (⟨#[]⟩ : ByteArray), ([] : List ByteArray), 0, 34)) else (if x1.toList = ([] : List UInt8) then (if x10 = true then (client_Authenticate.j1 k x0 2 x9 x12) else (some ((⟨#[]⟩ : ByteArray), (⟨#[]⟩ : ByteArray), 0, false, (⟨#[]⟩ : ByteArray), ([] : List ByteArray), 0, 7))) else ((client_Basic.f k x1).bind fun bt234 => (if bt234.2.2 = 0 then (if x13 = true then (some ((⟨#[]⟩ : ByteArray), (⟨#[]⟩ : ByteArray), 0, false, (⟨#[]⟩ : ByteArray), ([] : List ByteArray), 0, 34)) else (if x10 = true then (if x9.toList = bt234.1.toList then (client_Authenticate.j1 k x0 1 bt234.1 bt234.2.1) else (some ((⟨#[]⟩ : ByteArray), (⟨#[]⟩ : ByteArray), 0, false, (⟨#[]⟩ : ByteArray), ([] : List ByteArray), 0, 112))) else (client_Authenticate.j1 k x0 1 bt234.1 bt234.2.1))) else (some ((⟨#[]⟩ : ByteArray), (⟨#[]⟩ : ByteArray), 0, false, (⟨#[]⟩ : ByteArray), ([] : List ByteArray), 0, bt234.2.2)))))
def client_Authenticate.j1 : Nat → List (S40) → Int → ByteArray → ByteArray → Option (ByteArray × ByteArray × Int × Bool × ByteArray × List ByteArray × Int × Int)
 | 0, _, _, _, _ => none
 | k + 1, x0, x15, x16, x17 => (client_Find.f k x0 x16).bind fun bt237 => (if bt237.2.2.2.2.2.2 = true then ((client_proven.f k bt237.1 bt237.2.1 bt237.2.2.1 bt237.2.2.2.1 bt237.2.2.2.2.1 bt237.2.2.2.2.2.1 x15 x17).bind fun bt247 => (some (bt247.1, bt247.2.1, bt247.2.2.1, bt247.2.2.2.1, bt247.2.2.2.2.1, bt247.2.2.2.2.2.1, bt247.2.2.2.2.2.2.1, bt247.2.2.2.2.2.2.2))) else (some ((⟨#[]⟩ : ByteArray), (⟨#[]⟩ : ByteArray), 0, false, (⟨#[]⟩ : ByteArray), ([] : List ByteArray), 0, 111)))
end
def client_Authenticate.f (k : Nat) (l0 : List (S40)) (a1 : ByteArray) (l2 : List (S68)) : Option (ByteArray × ByteArray × Int × Bool × ByteArray × List ByteArray × Int × Int) := (urlform_One.f k l2 (⟨#[99, 108, 105, 101, 110, 116, 95, 105, 100]⟩ : ByteArray)).bind fun bt228 => ((urlform_One.f k l2 (⟨#[99, 108, 105, 101, 110, 116, 95, 115, 101, 99, 114, 101, 116]⟩ : ByteArray)).bind fun bt231 => (if bt228.2.2 = 0 then (client_Authenticate.j0 k l0 a1 bt228.1 bt228.2.1 bt231.1 bt231.2.1 (bt231.2.2 != 0)) else (client_Authenticate.j0 k l0 a1 bt228.1 bt228.2.1 bt231.1 bt231.2.1 true)))
set_option maxHeartbeats 8000000 in
set_option maxRecDepth 100000 in
theorem client_Authenticate.calls (k : Nat) (A0 : Option Addr) (c0 : Nat) (l0 : List (S40)) (a1 : ByteArray) (A2 : Option Addr) (c2 : Nat) (l2 : List (S68)) (r1 : ByteArray) (r2 : ByteArray) (r3 : Int) (r4 : Bool) (r5 : ByteArray) (r6 : List ByteArray) (r7 : Int) (r8 : Int) (w : World) (hr0 : Kd.C k40 w A0 l0.length l0) (hc0 : l0.length ≤ c0) (hr2 : Kd.C k68 w A2 l2.length l2) (hc2 : l2.length ≤ c2) (h : client_Authenticate.f k l0 a1 l2 = some (r1, r2, r3, r4, r5, r6, r7, r8)) :
 Calls Tryz.prog 34 #[.slice A0 l0.length c0, .string a1, .slice A2 l2.length c2] w fun e w' => ∃ v5_ : Value, e = .returned (.tuple #[.agg #[.string r1, .string r2, .int .i64 r3, .bool r4, .string r5, v5_], .int .i64 r7, .int .i64 r8]) ∧ Kd.R Kd.string 9 w' w.heap.size (fun _ => True) v5_ r6 ∧ Below w.heap.size w w' := by
 have hu40 := Tryz.underlying40
 have HR0 := Aside0.mk hr0
 have HC0 := Aside0.mk hc0
 clear hr0 hc0
 have HR2 := Aside0.mk hr2
 have HC2 := Aside0.mk hc2
 clear hr2 hc2
 have HB := Aside0.mk (Below.refl w.heap.size w)
 have H : ((urlform_One.f k l2 (⟨#[99, 108, 105, 101, 110, 116, 95, 105, 100]⟩ : ByteArray)).bind fun bt228 => ((urlform_One.f k l2 (⟨#[99, 108, 105, 101, 110, 116, 95, 115, 101, 99, 114, 101, 116]⟩ : ByteArray)).bind fun bt231 => (if bt228.2.2 = 0 then (client_Authenticate.j0 k l0 a1 bt228.1 bt228.2.1 bt231.1 bt231.2.1 (bt231.2.2 != 0)) else (client_Authenticate.j0 k l0 a1 bt228.1 bt228.2.1 bt231.1 bt231.2.1 true)))) = some (r1, r2, r3, r4, r5, r6, r7, r8) := h
 clear h
 replace H := Option.bind_eq_some_iff.mp H
 obtain ⟨⟨t228, t229, t230⟩, A40, H⟩ := H
 replace H : ((urlform_One.f k l2 (⟨#[99, 108, 105, 101, 110, 116, 95, 115, 101, 99, 114, 101, 116]⟩ : ByteArray)).bind fun bt231 => (if t230 = 0 then (client_Authenticate.j0 k l0 a1 t228 t229 bt231.1 bt231.2.1 (bt231.2.2 != 0)) else (client_Authenticate.j0 k l0 a1 t228 t229 bt231.1 bt231.2.1 true))) = some (r1, r2, r3, r4, r5, r6, r7, r8) := H
 have A4 := Aside0.mk A40
 clear A40
 replace H := Option.bind_eq_some_iff.mp H
 obtain ⟨⟨t231, t232, t233⟩, A50, H⟩ := H
 replace H : (if t230 = 0 then (client_Authenticate.j0 k l0 a1 t228 t229 t231 t232 (t233 != 0)) else (client_Authenticate.j0 k l0 a1 t228 t229 t231 t232 true)) = some (r1, r2, r3, r4, r5, r6, r7, r8) := H
 have A5 := Aside0.mk A50
 clear A50
 have HC6 := Aside0.mk H
 clear H
 go_enter Tryz.func34, Tryz.ntmps34
 go_upto_region 3 with (first | ((with_reducible refine gate_dst (N := 6) rfl ?_); refine box_event (by rfl) (N := 6) (by rfl) (cs := #[.string (⟨#[]⟩ : ByteArray), .string (⟨#[]⟩ : ByteArray), .int .i64 0, .bool false, .string (⟨#[]⟩ : ByteArray), .slice none 0 0]) (t := 40) (by go_simp) ?_; intro gb227 hg w7 hbox hb; have BK227 := Aside0.mk hbox; have GW227 := Aside0.mk ((by rw [hg]; exact (below_size HB.out) : w.heap.size ≤ gb227)); have GE227 := Aside0.mk ((by rw [hg]; exact (below_size HB.out) : w.heap.size ≤ gb227)); replace HB := Aside0.mk (below_step HB.out hb); clear hb hbox hg) | ((with_reducible refine gate_callee (f := 69) rfl ?_); refine goesL_ (some 23) rfl rfl Tryz.func69 (by kernel_rfl) rfl #[.slice A2 l2.length c2, .string (⟨#[99, 108, 105, 101, 110, 116, 95, 105, 100]⟩ : ByteArray)] rfl (by ((try simp only [List.map_toArray, List.map_cons, List.map_nil]); (rfl))) ?_; (with_reducible refine (urlform_One.calls k _ _ l2 (⟨#[99, 108, 105, 101, 110, 116, 95, 105, 100]⟩ : ByteArray) t228 t229 t230 _ ?side1 ?side2 A4.out).mono ?_); (case side1 => repeat (exact (Kd.C_below HR2.out HB.out))); (case side2 => exact HC2.out); rintro e w8 ⟨rfl, hb⟩; refine ⟨_, rfl, ?_⟩; replace BK227 := Aside0.mk (blk_below BK227.out hb); replace HB := Aside0.mk (below_step HB.out hb); clear hb) | ((with_reducible refine gate_callee (f := 69) rfl ?_); refine goesL_ (some 29) rfl rfl Tryz.func69 (by kernel_rfl) rfl #[.slice A2 l2.length c2, .string (⟨#[99, 108, 105, 101, 110, 116, 95, 115, 101, 99, 114, 101, 116]⟩ : ByteArray)] rfl (by ((try simp only [List.map_toArray, List.map_cons, List.map_nil]); (rfl))) ?_; (with_reducible refine (urlform_One.calls k _ _ l2 (⟨#[99, 108, 105, 101, 110, 116, 95, 115, 101, 99, 114, 101, 116]⟩ : ByteArray) t231 t232 t233 _ ?side1 ?side2 A5.out).mono ?_); (case side1 => repeat (exact (Kd.C_below HR2.out HB.out))); (case side2 => exact HC2.out); rintro e w9 ⟨rfl, hb⟩; refine ⟨_, rfl, ?_⟩; replace BK227 := Aside0.mk (blk_below BK227.out hb); replace HB := Aside0.mk (below_step HB.out hb); clear hb))
 go_cut [38] (fun v38 wc => ∃ (kq : Nat) (x38_5 : Bool), v38 = .bool x38_5 ∧ Aside0 (client_Authenticate.j0 kq l0 a1 t228 t229 t231 t232 x38_5 = some (r1, r2, r3, r4, r5, r6, r7, r8)) ∧ Aside0 (kq ≤ k) ∧ Aside0 (wc.heap[gb227]? = some (.cells #[.string (⟨#[]⟩ : ByteArray), .string (⟨#[]⟩ : ByteArray), .int .i64 0, .bool false, .string (⟨#[]⟩ : ByteArray), (.slice none 0 0)] 40 (0, 0))) ∧ Aside0 (Below w.heap.size w wc))
 case first =>
  have H := HC6.out
  clear HC6
  by_cases c10 : t230 = 0
  · rw [if_pos c10] at H
    have c10b0 : (t230 == 0) = true := beq_iff_eq.mpr c10
    have c10b1 : (t230 != 0) = false := bne_eq_false_iff_eq.mpr c10
    clear c10
    have H' := Aside0.mk H
    clear H
    go_wp2
    go_meet
    case rel => exact ⟨_, ((t233 != 0)), rfl, H', ⟨by (omega)⟩, ⟨BK227.out⟩, ⟨HB.out⟩⟩
  · rw [if_neg c10] at H
    have c10b0 : (t230 == 0) = false := beq_eq_false_iff_ne.mpr c10
    have c10b1 : (t230 != 0) = true := bne_iff_ne.mpr c10
    have H' := Aside0.mk H
    clear H
    go_wp2
    go_meet
    case rel => exact ⟨_, (true), rfl, H', ⟨by (omega)⟩, ⟨BK227.out⟩, ⟨HB.out⟩⟩
 case rest =>
  clear HC6
  obtain ⟨kq, x38_5, rfl, HA, HJ5, BK227, HB⟩ := hcut
  cases kq with
  | zero => exact absurd HA.out (by simp [client_Authenticate.j0])
  | succ kj5 =>
   have H := HA.out
   clear HA
   simp only [client_Authenticate.j0] at H
   by_cases c11 : x38_5 = true
   · subst c11
     have H1 : (some ((⟨#[]⟩ : ByteArray), (⟨#[]⟩ : ByteArray), 0, false, (⟨#[]⟩ : ByteArray), ([] : List ByteArray), 0, 34)) = some (r1, r2, r3, r4, r5, r6, r7, r8) := by rw [if_pos rfl] at H; exact H
     clear H
     have H := H1
     clear H1
     simp only [Option.some.injEq, Prod.mk.injEq] at H
     obtain ⟨rfl, rfl, rfl, rfl, rfl, rfl, rfl, rfl⟩ := H
     obtain ⟨hcz12_0, hcz12_1, hcz12_2, hcz12_3, hcz12_4, hcz12_5, hfz12_0, hfz12_1, hfz12_2, hfz12_3, hfz12_4, hfz12_5⟩ := cz6_ BK227.out
     go_wp2
     refine bodyPost_ret (results_ctt rfl _ _ gb227 40 #[.string (⟨#[]⟩ : ByteArray), .string (⟨#[]⟩ : ByteArray), .int .i64 0, .bool false, .string (⟨#[]⟩ : ByteArray), .slice none 0 0] (0, 0) _ rfl (put6_ BK227.out _ _ _ _ _ _) Tryz.underlying40 rfl (by kernel_rfl)) rfl ?_
     exact ⟨_, rfl, by (exact Kd.R_nil _ _ _ _ _), by (repeat (with_reducible first | exact HB.out | refine below_set ?_ GE227.out))⟩
   · replace c11 := Bool.eq_false_iff.mpr c11
     subst c11
     have H1 : (if a1.toList = ([] : List UInt8) then (if t229 = true then (client_Authenticate.j1 kj5 l0 2 t228 t231) else (some ((⟨#[]⟩ : ByteArray), (⟨#[]⟩ : ByteArray), 0, false, (⟨#[]⟩ : ByteArray), ([] : List ByteArray), 0, 7))) else ((client_Basic.f kj5 a1).bind fun bt234 => (if bt234.2.2 = 0 then (if t232 = true then (some ((⟨#[]⟩ : ByteArray), (⟨#[]⟩ : ByteArray), 0, false, (⟨#[]⟩ : ByteArray), ([] : List ByteArray), 0, 34)) else (if t229 = true then (if t228.toList = bt234.1.toList then (client_Authenticate.j1 kj5 l0 1 bt234.1 bt234.2.1) else (some ((⟨#[]⟩ : ByteArray), (⟨#[]⟩ : ByteArray), 0, false, (⟨#[]⟩ : ByteArray), ([] : List ByteArray), 0, 112))) else (client_Authenticate.j1 kj5 l0 1 bt234.1 bt234.2.1))) else (some ((⟨#[]⟩ : ByteArray), (⟨#[]⟩ : ByteArray), 0, false, (⟨#[]⟩ : ByteArray), ([] : List ByteArray), 0, bt234.2.2))))) = some (r1, r2, r3, r4, r5, r6, r7, r8) := by rw [if_neg (show ¬ (false = true) by decide)] at H; exact H
     clear H
     have H := H1
     clear H1
     have HC13 := Aside0.mk H
     clear H
     go_upto_if 43 with (fail)
     go_cut [15, 16, 17] (fun v15 v16 v17 wc => ∃ (kq : Nat) (x15_12 : Int) (x16_12 : ByteArray) (x17_12 : ByteArray) (x228000_12 : ByteArray) (x228001_12 : ByteArray) (x228002_12 : Int) (x228003_12 : Bool) (x228004_12 : ByteArray), v15 = .int .i64 x15_12 ∧ v16 = .string x16_12 ∧ v17 = .string x17_12 ∧ Aside0 (client_Authenticate.j1 kq l0 x15_12 x16_12 x17_12 = some (r1, r2, r3, r4, r5, r6, r7, r8)) ∧ Aside0 (kq ≤ kj5) ∧ Aside0 (wc.heap[gb227]? = some (.cells #[.string x228000_12, .string x228001_12, .int .i64 x228002_12, .bool x228003_12, .string x228004_12, (.slice none 0 0)] 40 (0, 0))) ∧ Aside0 (Below w.heap.size w wc))
     case first =>
      have H := HC13.out
      clear HC13
      by_cases c14 : a1.toList = ([] : List UInt8)
      · rw [if_pos c14] at H
        have c14b0 : (a1.toList == ([] : List UInt8)) = true := beq_iff_eq.mpr c14
        try have c14b4 : (a1).toList.isEmpty = true := by have h_ := c14b0; revert h_; cases (a1).toList <;> simp
        have c14b1 : (a1.toList != ([] : List UInt8)) = false := bne_eq_false_iff_eq.mpr c14
        clear c14
        (rw [c14b4])
        by_cases c15 : t229 = true
        · subst c15
          have H1 : (client_Authenticate.j1 kj5 l0 2 t228 t231) = some (r1, r2, r3, r4, r5, r6, r7, r8) := by rw [if_pos rfl] at H; exact H
          clear H
          have H := H1
          clear H1
          have H' := Aside0.mk H
          clear H
          go_wp2
          go_meet
          case rel => exact ⟨_, (2), (t228), (t231), ((⟨#[]⟩ : ByteArray)), ((⟨#[]⟩ : ByteArray)), (0), (false), ((⟨#[]⟩ : ByteArray)), rfl, rfl, rfl, H', ⟨by have := HJ5.out; (omega)⟩, ⟨BK227.out⟩, ⟨HB.out⟩⟩
        · replace c15 := Bool.eq_false_iff.mpr c15
          subst c15
          have H1 : (some ((⟨#[]⟩ : ByteArray), (⟨#[]⟩ : ByteArray), 0, false, (⟨#[]⟩ : ByteArray), ([] : List ByteArray), 0, 7)) = some (r1, r2, r3, r4, r5, r6, r7, r8) := by rw [if_neg (show ¬ (false = true) by decide)] at H; exact H
          clear H
          have H := H1
          clear H1
          simp only [Option.some.injEq, Prod.mk.injEq] at H
          obtain ⟨rfl, rfl, rfl, rfl, rfl, rfl, rfl, rfl⟩ := H
          obtain ⟨hcz16_0, hcz16_1, hcz16_2, hcz16_3, hcz16_4, hcz16_5, hfz16_0, hfz16_1, hfz16_2, hfz16_3, hfz16_4, hfz16_5⟩ := cz6_ BK227.out
          go_wp2
          refine bodyPost_ret (results_ctt rfl _ _ gb227 40 #[.string (⟨#[]⟩ : ByteArray), .string (⟨#[]⟩ : ByteArray), .int .i64 0, .bool false, .string (⟨#[]⟩ : ByteArray), .slice none 0 0] (0, 0) _ rfl (put6_ BK227.out _ _ _ _ _ _) Tryz.underlying40 rfl (by kernel_rfl)) rfl ?_
          exact ⟨_, rfl, by (exact Kd.R_nil _ _ _ _ _), by (repeat (with_reducible first | exact HB.out | refine below_set ?_ GE227.out))⟩
      · rw [if_neg c14] at H
        have c14b0 : (a1.toList == ([] : List UInt8)) = false := beq_eq_false_iff_ne.mpr c14
        try have c14b4 : (a1).toList.isEmpty = false := by have h_ := c14b0; revert h_; cases (a1).toList <;> simp
        have c14b1 : (a1.toList != ([] : List UInt8)) = true := bne_iff_ne.mpr c14
        (rw [c14b4])
        replace H := Option.bind_eq_some_iff.mp H
        obtain ⟨⟨t234, t235, t236⟩, A170, H⟩ := H
        replace H : (if t236 = 0 then (if t232 = true then (some ((⟨#[]⟩ : ByteArray), (⟨#[]⟩ : ByteArray), 0, false, (⟨#[]⟩ : ByteArray), ([] : List ByteArray), 0, 34)) else (if t229 = true then (if t228.toList = t234.toList then (client_Authenticate.j1 kj5 l0 1 t234 t235) else (some ((⟨#[]⟩ : ByteArray), (⟨#[]⟩ : ByteArray), 0, false, (⟨#[]⟩ : ByteArray), ([] : List ByteArray), 0, 112))) else (client_Authenticate.j1 kj5 l0 1 t234 t235))) else (some ((⟨#[]⟩ : ByteArray), (⟨#[]⟩ : ByteArray), 0, false, (⟨#[]⟩ : ByteArray), ([] : List ByteArray), 0, t236))) = some (r1, r2, r3, r4, r5, r6, r7, r8) := H
        have A17 := Aside0.mk A170
        clear A170
        by_cases c18 : t236 = 0
        · rw [if_pos c18] at H
          have c18b0 : (t236 == 0) = true := beq_iff_eq.mpr c18
          have c18b1 : (t236 != 0) = false := bne_eq_false_iff_eq.mpr c18
          clear c18
          by_cases c19 : t232 = true
          · subst c19
            have H1 : (some ((⟨#[]⟩ : ByteArray), (⟨#[]⟩ : ByteArray), 0, false, (⟨#[]⟩ : ByteArray), ([] : List ByteArray), 0, 34)) = some (r1, r2, r3, r4, r5, r6, r7, r8) := by rw [if_pos rfl] at H; exact H
            clear H
            have H := H1
            clear H1
            simp only [Option.some.injEq, Prod.mk.injEq] at H
            obtain ⟨rfl, rfl, rfl, rfl, rfl, rfl, rfl, rfl⟩ := H
            go_wp2_with (first | ((with_reducible refine gate_callee (f := 32) rfl ?_); refine goesL_ (some 46) rfl rfl Tryz.func32 (by kernel_rfl) rfl #[.string a1] rfl (by ((try simp only [List.map_toArray, List.map_cons, List.map_nil]); (rfl))) ?_; (with_reducible refine (client_Basic.calls kj5 a1 t234 t235 t236 _ A17.out).mono ?_); rintro e w20 ⟨rfl, hb⟩; refine ⟨_, rfl, ?_⟩; replace BK227 := Aside0.mk (blk_below BK227.out hb); replace HB := Aside0.mk (below_step HB.out hb); clear hb; obtain ⟨hcz21_0, hcz21_1, hcz21_2, hcz21_3, hcz21_4, hcz21_5, hfz21_0, hfz21_1, hfz21_2, hfz21_3, hfz21_4, hfz21_5⟩ := cz6_ BK227.out))
            refine bodyPost_ret (results_ctt rfl _ _ gb227 40 #[.string (⟨#[]⟩ : ByteArray), .string (⟨#[]⟩ : ByteArray), .int .i64 0, .bool false, .string (⟨#[]⟩ : ByteArray), .slice none 0 0] (0, 0) _ rfl (put6_ BK227.out _ _ _ _ _ _) Tryz.underlying40 rfl (by kernel_rfl)) rfl ?_
            exact ⟨_, rfl, by (exact Kd.R_nil _ _ _ _ _), by (repeat (with_reducible first | exact HB.out | refine below_set ?_ GE227.out))⟩
          · replace c19 := Bool.eq_false_iff.mpr c19
            subst c19
            have H1 : (if t229 = true then (if t228.toList = t234.toList then (client_Authenticate.j1 kj5 l0 1 t234 t235) else (some ((⟨#[]⟩ : ByteArray), (⟨#[]⟩ : ByteArray), 0, false, (⟨#[]⟩ : ByteArray), ([] : List ByteArray), 0, 112))) else (client_Authenticate.j1 kj5 l0 1 t234 t235)) = some (r1, r2, r3, r4, r5, r6, r7, r8) := by rw [if_neg (show ¬ (false = true) by decide)] at H; exact H
            clear H
            have H := H1
            clear H1
            by_cases c22 : t229 = true
            · subst c22
              have H1 : (if t228.toList = t234.toList then (client_Authenticate.j1 kj5 l0 1 t234 t235) else (some ((⟨#[]⟩ : ByteArray), (⟨#[]⟩ : ByteArray), 0, false, (⟨#[]⟩ : ByteArray), ([] : List ByteArray), 0, 112))) = some (r1, r2, r3, r4, r5, r6, r7, r8) := by rw [if_pos rfl] at H; exact H
              clear H
              have H := H1
              clear H1
              by_cases c23 : t228.toList = t234.toList
              · rw [if_pos c23] at H
                have c23b0 : (t228.toList == t234.toList) = true := beq_iff_eq.mpr c23
                have c23b1 : (t228.toList != t234.toList) = false := bne_eq_false_iff_eq.mpr c23
                clear c23
                have H' := Aside0.mk H
                clear H
                go_wp2_with (first | ((with_reducible refine gate_callee (f := 32) rfl ?_); refine goesL_ (some 46) rfl rfl Tryz.func32 (by kernel_rfl) rfl #[.string a1] rfl (by ((try simp only [List.map_toArray, List.map_cons, List.map_nil]); (rfl))) ?_; (with_reducible refine (client_Basic.calls kj5 a1 t234 t235 t236 _ A17.out).mono ?_); rintro e w24 ⟨rfl, hb⟩; refine ⟨_, rfl, ?_⟩; replace BK227 := Aside0.mk (blk_below BK227.out hb); replace HB := Aside0.mk (below_step HB.out hb); clear hb))
                go_meet
                case rel => exact ⟨_, (1), (t234), (t235), ((⟨#[]⟩ : ByteArray)), ((⟨#[]⟩ : ByteArray)), (0), (false), ((⟨#[]⟩ : ByteArray)), rfl, rfl, rfl, H', ⟨by have := HJ5.out; (omega)⟩, ⟨BK227.out⟩, ⟨HB.out⟩⟩
              · rw [if_neg c23] at H
                have c23b0 : (t228.toList == t234.toList) = false := beq_eq_false_iff_ne.mpr c23
                have c23b1 : (t228.toList != t234.toList) = true := bne_iff_ne.mpr c23
                simp only [Option.some.injEq, Prod.mk.injEq] at H
                obtain ⟨rfl, rfl, rfl, rfl, rfl, rfl, rfl, rfl⟩ := H
                go_wp2_with (first | ((with_reducible refine gate_callee (f := 32) rfl ?_); refine goesL_ (some 46) rfl rfl Tryz.func32 (by kernel_rfl) rfl #[.string a1] rfl (by ((try simp only [List.map_toArray, List.map_cons, List.map_nil]); (rfl))) ?_; (with_reducible refine (client_Basic.calls kj5 a1 t234 t235 t236 _ A17.out).mono ?_); rintro e w25 ⟨rfl, hb⟩; refine ⟨_, rfl, ?_⟩; replace BK227 := Aside0.mk (blk_below BK227.out hb); replace HB := Aside0.mk (below_step HB.out hb); clear hb; obtain ⟨hcz26_0, hcz26_1, hcz26_2, hcz26_3, hcz26_4, hcz26_5, hfz26_0, hfz26_1, hfz26_2, hfz26_3, hfz26_4, hfz26_5⟩ := cz6_ BK227.out))
                refine bodyPost_ret (results_ctt rfl _ _ gb227 40 #[.string (⟨#[]⟩ : ByteArray), .string (⟨#[]⟩ : ByteArray), .int .i64 0, .bool false, .string (⟨#[]⟩ : ByteArray), .slice none 0 0] (0, 0) _ rfl (put6_ BK227.out _ _ _ _ _ _) Tryz.underlying40 rfl (by kernel_rfl)) rfl ?_
                exact ⟨_, rfl, by (exact Kd.R_nil _ _ _ _ _), by (repeat (with_reducible first | exact HB.out | refine below_set ?_ GE227.out))⟩
            · replace c22 := Bool.eq_false_iff.mpr c22
              subst c22
              have H1 : (client_Authenticate.j1 kj5 l0 1 t234 t235) = some (r1, r2, r3, r4, r5, r6, r7, r8) := by rw [if_neg (show ¬ (false = true) by decide)] at H; exact H
              clear H
              have H := H1
              clear H1
              have H' := Aside0.mk H
              clear H
              go_wp2_with (first | ((with_reducible refine gate_callee (f := 32) rfl ?_); refine goesL_ (some 46) rfl rfl Tryz.func32 (by kernel_rfl) rfl #[.string a1] rfl (by ((try simp only [List.map_toArray, List.map_cons, List.map_nil]); (rfl))) ?_; (with_reducible refine (client_Basic.calls kj5 a1 t234 t235 t236 _ A17.out).mono ?_); rintro e w27 ⟨rfl, hb⟩; refine ⟨_, rfl, ?_⟩; replace BK227 := Aside0.mk (blk_below BK227.out hb); replace HB := Aside0.mk (below_step HB.out hb); clear hb))
              go_meet
              case rel => exact ⟨_, (1), (t234), (t235), ((⟨#[]⟩ : ByteArray)), ((⟨#[]⟩ : ByteArray)), (0), (false), ((⟨#[]⟩ : ByteArray)), rfl, rfl, rfl, H', ⟨by have := HJ5.out; (omega)⟩, ⟨BK227.out⟩, ⟨HB.out⟩⟩
        · rw [if_neg c18] at H
          have c18b0 : (t236 == 0) = false := beq_eq_false_iff_ne.mpr c18
          have c18b1 : (t236 != 0) = true := bne_iff_ne.mpr c18
          simp only [Option.some.injEq, Prod.mk.injEq] at H
          obtain ⟨rfl, rfl, rfl, rfl, rfl, rfl, rfl, rfl⟩ := H
          go_wp2_with (first | ((with_reducible refine gate_callee (f := 32) rfl ?_); refine goesL_ (some 46) rfl rfl Tryz.func32 (by kernel_rfl) rfl #[.string a1] rfl (by ((try simp only [List.map_toArray, List.map_cons, List.map_nil]); (rfl))) ?_; (with_reducible refine (client_Basic.calls kj5 a1 t234 t235 t236 _ A17.out).mono ?_); rintro e w28 ⟨rfl, hb⟩; refine ⟨_, rfl, ?_⟩; replace BK227 := Aside0.mk (blk_below BK227.out hb); replace HB := Aside0.mk (below_step HB.out hb); clear hb; obtain ⟨hcz29_0, hcz29_1, hcz29_2, hcz29_3, hcz29_4, hcz29_5, hfz29_0, hfz29_1, hfz29_2, hfz29_3, hfz29_4, hfz29_5⟩ := cz6_ BK227.out))
          refine bodyPost_ret (results_ctt rfl _ _ gb227 40 #[.string (⟨#[]⟩ : ByteArray), .string (⟨#[]⟩ : ByteArray), .int .i64 0, .bool false, .string (⟨#[]⟩ : ByteArray), .slice none 0 0] (0, 0) _ rfl (put6_ BK227.out _ _ _ _ _ _) Tryz.underlying40 rfl (by kernel_rfl)) rfl ?_
          exact ⟨_, rfl, by (exact Kd.R_nil _ _ _ _ _), by (repeat (with_reducible first | exact HB.out | refine below_set ?_ GE227.out))⟩
     case rest =>
      clear HC13
      obtain ⟨kq, x15_12, x16_12, x17_12, x228000_12, x228001_12, x228002_12, x228003_12, x228004_12, rfl, rfl, rfl, HA, HJ12, BK227, HB⟩ := hcut
      cases kq with
      | zero => exact absurd HA.out (by simp [client_Authenticate.j1])
      | succ kj12 =>
       have H := HA.out
       clear HA
       simp only [client_Authenticate.j1] at H
       replace H := Option.bind_eq_some_iff.mp H
       obtain ⟨⟨t237, t238, t239, t240, t241, t242, t245⟩, A300, H⟩ := H
       replace H : (if t245 = true then ((client_proven.f kj12 t237 t238 t239 t240 t241 t242 x15_12 x17_12).bind fun bt247 => (some (bt247.1, bt247.2.1, bt247.2.2.1, bt247.2.2.2.1, bt247.2.2.2.2.1, bt247.2.2.2.2.2.1, bt247.2.2.2.2.2.2.1, bt247.2.2.2.2.2.2.2))) else (some ((⟨#[]⟩ : ByteArray), (⟨#[]⟩ : ByteArray), 0, false, (⟨#[]⟩ : ByteArray), ([] : List ByteArray), 0, 111))) = some (r1, r2, r3, r4, r5, r6, r7, r8) := H
       have A30 := Aside0.mk A300
       clear A300
       by_cases c31 : t245 = true
       · subst c31
         have H1 : ((client_proven.f kj12 t237 t238 t239 t240 t241 t242 x15_12 x17_12).bind fun bt247 => (some (bt247.1, bt247.2.1, bt247.2.2.1, bt247.2.2.2.1, bt247.2.2.2.2.1, bt247.2.2.2.2.2.1, bt247.2.2.2.2.2.2.1, bt247.2.2.2.2.2.2.2))) = some (r1, r2, r3, r4, r5, r6, r7, r8) := by rw [if_pos rfl] at H; exact H
         clear H
         have H := H1
         clear H1
         replace H := Option.bind_eq_some_iff.mp H
         obtain ⟨⟨t247, t248, t249, t250, t251, t252, t255, t256⟩, A320, H⟩ := H
         replace H : (some (t247, t248, t249, t250, t251, t252, t255, t256)) = some (r1, r2, r3, r4, r5, r6, r7, r8) := H
         have A32 := Aside0.mk A320
         clear A320
         simp only [Option.some.injEq, Prod.mk.injEq] at H
         obtain ⟨rfl, rfl, rfl, rfl, rfl, rfl, rfl, rfl⟩ := H
         go_wp2_with (first | ((with_reducible refine gate_callee (f := 29) rfl ?_); refine goesL_ (some 72) rfl rfl Tryz.func29 (by kernel_rfl) rfl #[.slice A0 l0.length c0, .string x16_12] rfl (by ((try simp only [List.map_toArray, List.map_cons, List.map_nil]); (rfl))) ?_; (with_reducible refine (client_Find.calls kj12 _ _ l0 x16_12 t237 t238 t239 t240 t241 t242 true _ ?side1 ?side2 A30.out).mono ?_); (case side1 => repeat (exact (Kd.C_below HR0.out HB.out))); (case side2 => exact HC0.out); rintro e w33 ⟨v243, rfl, ho0, hb⟩; refine ⟨_, rfl, ?_⟩; have HO244 := Aside0.mk (Kd.R_lower ho0 (below_size HB.out)); replace BK227 := Aside0.mk (blk_below BK227.out hb); replace HB := Aside0.mk (below_step HB.out hb); clear hb ho0) | ((with_reducible refine gate_dst (N := 19) rfl ?_); refine box_event (by rfl) (N := 19) (by rfl) (cs := #[.string (⟨#[]⟩ : ByteArray), .string (⟨#[]⟩ : ByteArray), .int .i64 0, .bool false, .string (⟨#[]⟩ : ByteArray), .slice none 0 0]) (t := 40) (by go_simp) ?_; intro gb246 hg w34 hbox hb; replace HO244 := Aside0.mk (Kd.R_below HO244.out hb); have BK246 := Aside0.mk hbox; have GW246 := Aside0.mk ((by rw [hg]; exact (below_size HB.out) : w.heap.size ≤ gb246)); have GE246 := Aside0.mk ((by rw [hg]; exact (below_size HB.out) : w.heap.size ≤ gb246)); replace HB := Aside0.mk (below_step HB.out hb); have NB227_246 := Aside0.mk ((by rw [hg]; exact Nat.ne_of_lt (blk_lt BK227.out) : gb227 ≠ gb246)); have NB246_227 := Aside0.mk ((by rw [hg]; exact Nat.ne_of_gt (blk_lt BK227.out) : gb246 ≠ gb227)); replace BK227 := Aside0.mk (blk_below BK227.out hb); clear hb hbox hg; have hnb35 := NB246_227.out; have hnc35 := NB227_246.out; obtain ⟨hcz36_0, hcz36_1, hcz36_2, hcz36_3, hcz36_4, hcz36_5, hfz36_0, hfz36_1, hfz36_2, hfz36_3, hfz36_4, hfz36_5⟩ := cz6_ BK246.out; obtain ⟨Ao37, co37, eo37⟩ := Kd.R_slice HO244.out; subst eo37) | ((with_reducible refine gate_store (t := 40) (p := 19) rfl ?_); refine store_event (t := 40) (p := 19) (v := ?vo_w38) (w1 := ((((((w34.setCell ⟨gb246, 0, none⟩ (.string t237)).setCell ⟨gb246, 1, none⟩ (.string t238)).setCell ⟨gb246, 2, none⟩ (.int .i64 t239)).setCell ⟨gb246, 3, none⟩ (.bool t240)).setCell ⟨gb246, 4, none⟩ (.string t241)).setCell ⟨gb246, 5, none⟩ (.slice Ao37 t242.length co37))) ?hg ?ho ?hn ?hr ?_; (case ho => rfl); (case hg => rfl); (case hn => rfl); (case hr => (go_simp; done)); intro w38 hw; have n0_ : Aside0 (Kd.R Kd.string 9 w38 w.heap.size (fun _ => True) (.slice Ao37 t242.length co37) t242) := ⟨(by rw [hw]; exact (by (with_reducible repeat (first | apply Kd.R_alloc  | apply Kd.R_drewN  | apply Kd.R_drew)); exact Kd.R_mono (R_far6 (Kd.R_types HO244.out BK246.out (by decide)) (fun _ hk => hk.2)) (fun _ hk => trivial)))⟩; have n1_ : Aside0 (w38.heap[gb227]? = some (.cells #[.string x228000_12, .string x228001_12, .int .i64 x228002_12, .bool x228003_12, .string x228004_12, .slice none 0 0] 40 (0, 0))) := ⟨(by rw [hw]; exact (by (with_reducible repeat (first | refine blk_drewN ?_ _  | refine blk_drew ?_  | refine blk_alloc ?_ _)); refine blk_far ?_ NB227_246.out _; (with_reducible repeat (first | refine blk_drewN ?_ _  | refine blk_drew ?_  | refine blk_alloc ?_ _)); refine blk_far ?_ NB227_246.out _; (with_reducible repeat (first | refine blk_drewN ?_ _  | refine blk_drew ?_  | refine blk_alloc ?_ _)); refine blk_far ?_ NB227_246.out _; (with_reducible repeat (first | refine blk_drewN ?_ _  | refine blk_drew ?_  | refine blk_alloc ?_ _)); refine blk_far ?_ NB227_246.out _; (with_reducible repeat (first | refine blk_drewN ?_ _  | refine blk_drew ?_  | refine blk_alloc ?_ _)); refine blk_far ?_ NB227_246.out _; (with_reducible repeat (first | refine blk_drewN ?_ _  | refine blk_drew ?_  | refine blk_alloc ?_ _)); refine blk_far ?_ NB227_246.out _; (with_reducible repeat (first | refine blk_drewN ?_ _  | refine blk_drew ?_  | refine blk_alloc ?_ _)); exact BK227.out))⟩; have n2_ : Aside0 (w38.heap[gb246]? = some (.cells #[.string t237, .string t238, .int .i64 t239, .bool t240, .string t241, .slice Ao37 t242.length co37] 40 (0, 0))) := ⟨(by rw [hw]; exact (put6_ BK246.out _ _ _ _ _ _))⟩; have n3_ : Aside0 (Below w.heap.size w w38) := ⟨(by rw [hw]; exact (by (repeat (with_reducible first | exact HB.out | refine below_set ?_ GE246.out))))⟩; clear hw HO244; clear BK227 BK246 HB; have HO244 := n0_; have BK227 := n1_; have BK246 := n2_; have HB := n3_; clear n0_ n1_ n2_ n3_; obtain ⟨hcz39_0, hcz39_1, hcz39_2, hcz39_3, hcz39_4, hcz39_5, hfz39_0, hfz39_1, hfz39_2, hfz39_3, hfz39_4, hfz39_5⟩ := cz6_ BK246.out) | ((with_reducible refine gate_callee (f := 70) rfl ?_); refine goesL_ (some 81) rfl rfl Tryz.func70 (by kernel_rfl) rfl #[.agg #[.string t237, .string t238, .int .i64 t239, .bool t240, .string t241, .slice Ao37 t242.length co37], .int .i64 x15_12, .string x17_12] rfl (by ((try simp only [List.map_toArray, List.map_cons, List.map_nil]); (rfl))) ?_; (with_reducible refine (client_proven.calls kj12 t237 t238 t239 t240 t241 (fun k_ => some k_ = (.slice Ao37 t242.length co37 : Value).ownBlock) (.slice Ao37 t242.length co37) t242 x15_12 x17_12 t247 t248 t249 t250 t251 t252 t255 t256 w _ ?side1 ?side2 A32.out).mono ?_); (case side1 => repeat ((with_reducible (exact HB.out)))); (case side2 => exact Kd.R_tight rfl HO244.out); rintro e w40 ⟨v253, rfl, ho0, hb, hkp⟩; refine ⟨_, rfl, ?_⟩; have n0_ := Aside0.mk (blk_kept BK227.out hkp (fun hs_ => (fun e_ => (Kd.R_ne HO244.out BK227.out (by decide)) e_) hs_)); have n1_ := Aside0.mk (blk_kept BK246.out hkp (fun hs_ => (fun e_ => (Kd.R_ne HO244.out BK246.out (by decide)) e_) hs_)); have n2_ := Aside0.mk (Kd.R_mono (ok' := fun k_ => True) ho0 (fun k_ hk_ => trivial)); have n3_ := Aside0.mk hb; clear BK227 BK246; clear HB HO244; have BK227 := n0_; have BK246 := n1_; have HO254 := n2_; have HB := n3_; clear n0_ n1_ n2_ n3_; clear hb hkp ho0; obtain ⟨hcz41_0, hcz41_1, hcz41_2, hcz41_3, hcz41_4, hcz41_5, hfz41_0, hfz41_1, hfz41_2, hfz41_3, hfz41_4, hfz41_5⟩ := cz6_ BK227.out; obtain ⟨Ao42, co42, eo42⟩ := Kd.R_slice HO254.out; subst eo42))
         refine bodyPost_ret (results_ctt rfl _ _ gb227 40 #[.string t247, .string t248, .int .i64 t249, .bool t250, .string t251, .slice Ao42 t252.length co42] (0, 0) _ rfl (put6_ BK227.out _ _ _ _ _ _) Tryz.underlying40 rfl (by kernel_rfl)) rfl ?_
         exact ⟨_, rfl, by (with_reducible repeat (first | apply Kd.R_alloc  | apply Kd.R_drewN  | apply Kd.R_drew)); exact Kd.R_mono (R_far6 (Kd.R_types HO254.out BK227.out (by decide)) (fun _ hk => hk.2)) (fun _ hk => trivial), by (repeat (with_reducible first | exact HB.out | refine below_set ?_ GE227.out))⟩
       · replace c31 := Bool.eq_false_iff.mpr c31
         subst c31
         have H1 : (some ((⟨#[]⟩ : ByteArray), (⟨#[]⟩ : ByteArray), 0, false, (⟨#[]⟩ : ByteArray), ([] : List ByteArray), 0, 111)) = some (r1, r2, r3, r4, r5, r6, r7, r8) := by rw [if_neg (show ¬ (false = true) by decide)] at H; exact H
         clear H
         have H := H1
         clear H1
         simp only [Option.some.injEq, Prod.mk.injEq] at H
         obtain ⟨rfl, rfl, rfl, rfl, rfl, rfl, rfl, rfl⟩ := H
         go_wp2_with (first | ((with_reducible refine gate_callee (f := 29) rfl ?_); refine goesL_ (some 72) rfl rfl Tryz.func29 (by kernel_rfl) rfl #[.slice A0 l0.length c0, .string x16_12] rfl (by ((try simp only [List.map_toArray, List.map_cons, List.map_nil]); (rfl))) ?_; (with_reducible refine (client_Find.calls kj12 _ _ l0 x16_12 t237 t238 t239 t240 t241 t242 false _ ?side1 ?side2 A30.out).mono ?_); (case side1 => repeat (exact (Kd.C_below HR0.out HB.out))); (case side2 => exact HC0.out); rintro e w43 ⟨v243, rfl, ho0, hb⟩; refine ⟨_, rfl, ?_⟩; have HO244 := Aside0.mk (Kd.R_lower ho0 (below_size HB.out)); replace BK227 := Aside0.mk (blk_below BK227.out hb); replace HB := Aside0.mk (below_step HB.out hb); clear hb ho0) | ((with_reducible refine gate_dst (N := 19) rfl ?_); refine box_event (by rfl) (N := 19) (by rfl) (cs := #[.string (⟨#[]⟩ : ByteArray), .string (⟨#[]⟩ : ByteArray), .int .i64 0, .bool false, .string (⟨#[]⟩ : ByteArray), .slice none 0 0]) (t := 40) (by go_simp) ?_; intro gb246 hg w44 hbox hb; replace HO244 := Aside0.mk (Kd.R_below HO244.out hb); have BK246 := Aside0.mk hbox; have GW246 := Aside0.mk ((by rw [hg]; exact (below_size HB.out) : w.heap.size ≤ gb246)); have GE246 := Aside0.mk ((by rw [hg]; exact (below_size HB.out) : w.heap.size ≤ gb246)); replace HB := Aside0.mk (below_step HB.out hb); have NB227_246 := Aside0.mk ((by rw [hg]; exact Nat.ne_of_lt (blk_lt BK227.out) : gb227 ≠ gb246)); have NB246_227 := Aside0.mk ((by rw [hg]; exact Nat.ne_of_gt (blk_lt BK227.out) : gb246 ≠ gb227)); replace BK227 := Aside0.mk (blk_below BK227.out hb); clear hb hbox hg; have hnb45 := NB246_227.out; have hnc45 := NB227_246.out; obtain ⟨hcz46_0, hcz46_1, hcz46_2, hcz46_3, hcz46_4, hcz46_5, hfz46_0, hfz46_1, hfz46_2, hfz46_3, hfz46_4, hfz46_5⟩ := cz6_ BK246.out; obtain ⟨Ao47, co47, eo47⟩ := Kd.R_slice HO244.out; subst eo47; obtain ⟨hcz48_0, hcz48_1, hcz48_2, hcz48_3, hcz48_4, hcz48_5, hfz48_0, hfz48_1, hfz48_2, hfz48_3, hfz48_4, hfz48_5⟩ := cz6_ BK227.out))
         refine bodyPost_ret (results_ctt rfl _ _ gb227 40 #[.string (⟨#[]⟩ : ByteArray), .string (⟨#[]⟩ : ByteArray), .int .i64 0, .bool false, .string (⟨#[]⟩ : ByteArray), .slice none 0 0] (0, 0) _ rfl (by (with_reducible repeat (first | refine blk_drewN ?_ _  | refine blk_drew ?_  | refine blk_alloc ?_ _)); refine blk_put (cs := #[.string (⟨#[]⟩ : ByteArray), .string (⟨#[]⟩ : ByteArray), .int .i64 0, .bool false, .string (⟨#[]⟩ : ByteArray), .slice none 0 0]) ?_ 5 _ rfl; (with_reducible repeat (first | refine blk_drewN ?_ _  | refine blk_drew ?_  | refine blk_alloc ?_ _)); refine blk_put (cs := #[.string (⟨#[]⟩ : ByteArray), .string (⟨#[]⟩ : ByteArray), .int .i64 0, .bool false, .string x228004_12, .slice none 0 0]) ?_ 4 _ rfl; (with_reducible repeat (first | refine blk_drewN ?_ _  | refine blk_drew ?_  | refine blk_alloc ?_ _)); refine blk_put (cs := #[.string (⟨#[]⟩ : ByteArray), .string (⟨#[]⟩ : ByteArray), .int .i64 0, .bool x228003_12, .string x228004_12, .slice none 0 0]) ?_ 3 _ rfl; (with_reducible repeat (first | refine blk_drewN ?_ _  | refine blk_drew ?_  | refine blk_alloc ?_ _)); refine blk_put (cs := #[.string (⟨#[]⟩ : ByteArray), .string (⟨#[]⟩ : ByteArray), .int .i64 x228002_12, .bool x228003_12, .string x228004_12, .slice none 0 0]) ?_ 2 _ rfl; (with_reducible repeat (first | refine blk_drewN ?_ _  | refine blk_drew ?_  | refine blk_alloc ?_ _)); refine blk_put (cs := #[.string (⟨#[]⟩ : ByteArray), .string x228001_12, .int .i64 x228002_12, .bool x228003_12, .string x228004_12, .slice none 0 0]) ?_ 1 _ rfl; (with_reducible repeat (first | refine blk_drewN ?_ _  | refine blk_drew ?_  | refine blk_alloc ?_ _)); refine blk_put (cs := #[.string x228000_12, .string x228001_12, .int .i64 x228002_12, .bool x228003_12, .string x228004_12, .slice none 0 0]) ?_ 0 _ rfl; (with_reducible repeat (first | refine blk_drewN ?_ _  | refine blk_drew ?_  | refine blk_alloc ?_ _)); refine blk_far ?_ NB227_246.out _; (with_reducible repeat (first | refine blk_drewN ?_ _  | refine blk_drew ?_  | refine blk_alloc ?_ _)); refine blk_far ?_ NB227_246.out _; (with_reducible repeat (first | refine blk_drewN ?_ _  | refine blk_drew ?_  | refine blk_alloc ?_ _)); refine blk_far ?_ NB227_246.out _; (with_reducible repeat (first | refine blk_drewN ?_ _  | refine blk_drew ?_  | refine blk_alloc ?_ _)); refine blk_far ?_ NB227_246.out _; (with_reducible repeat (first | refine blk_drewN ?_ _  | refine blk_drew ?_  | refine blk_alloc ?_ _)); refine blk_far ?_ NB227_246.out _; (with_reducible repeat (first | refine blk_drewN ?_ _  | refine blk_drew ?_  | refine blk_alloc ?_ _)); refine blk_far ?_ NB227_246.out _; (with_reducible repeat (first | refine blk_drewN ?_ _  | refine blk_drew ?_  | refine blk_alloc ?_ _)); exact BK227.out) Tryz.underlying40 rfl (by kernel_rfl)) rfl ?_
         exact ⟨_, rfl, by (exact Kd.R_nil _ _ _ _ _), by (repeat (with_reducible first | exact HB.out | refine below_set ?_ GE227.out | refine below_set ?_ GE246.out))⟩
end Go.Proofs.YtmimipgmhgalaaaGreatDoor.PAll
end
section
namespace Go.Proofs.YtmimipgmhgalaaaGreatDoor.Pure
open Go.RowKit Go.Proofs.YtmimipgmhgalaaaGreatDoorW.PrintWords Go.Proofs.YtmimipgmhgalaaaGreatDoor.Plain Go.Proofs.YtmimipgmhgalaaaGreatDoor.Spec Go.Proofs.YtmimipgmhgalaaaGreatDoor.PAll
set_option linter.unusedSimpArgs false
set_option linter.unusedVariables false
abbrev aId : ByteArray := ⟨#[99, 108, 105, 101, 110, 116, 95, 105, 100]⟩
abbrev aSecret : ByteArray := ⟨#[99, 108, 105, 101, 110, 116, 95, 115, 101, 99, 114, 101, 116]⟩
def zX (e : Int) : CC × Int × Int := (zeroC, 0, e)
def flatX (r : CC × Int × Int) : ByteArray × ByteArray × Int × Bool × ByteArray × List ByteArray × Int × Int := (r.1.f0, r.1.f1, r.1.f2, r.1.f3, r.1.f4, r.1.f5, r.2.1, r.2.2)
def shownC (c : CC) (p : Int) (word : ByteArray) : CC × Int × Int :=
  if p = 1 ∧ c.f1.toList = [] then zX 112 else if c.f1.toList = word.toList then (if c.f1.toList = [] then (c, 0, 0) else (c, p, 0)) else zX 112
def seenL (l : List CC) (p : Int) (name word : ByteArray) : CC × Int × Int := if (foundC name l).2 = true then shownC (foundC name l).1 p word else zX 111
def oneV (n : ByteArray) (ps : List S68) : ByteArray × Bool × Int := foldO n ps ⟨#[]⟩ 0
def authL (l : List CC) (header : ByteArray) (ps : List S68) (B : ByteArray × ByteArray × Int) : CC × Int × Int :=
  if (oneV aId ps).2.2 = 0 ∧ (oneV aSecret ps).2.2 = 0 then
    (if header.toList = [] then (if (oneV aId ps).2.1 = true then seenL l 2 (oneV aId ps).1 (oneV aSecret ps).1 else zX 7)
    else if B.2.2 = 0 then (if (oneV aSecret ps).2.1 = true then zX 34 else if (oneV aId ps).2.1 = true ∧ (oneV aId ps).1.toList ≠ B.1.toList then zX 112 else seenL l 1 B.1 B.2.1) else zX B.2.2)
  else zX 34
theorem foundC_mem (a : ByteArray) : ∀ l : List CC, (foundC a l).1 ∈ l ∨ (foundC a l).1 = zeroC
  | [] => .inr rfl
  | x :: r => by
    unfold foundC
    split
    · exact .inl (by simp)
    · rcases foundC_mem a r with h | h
      · exact .inl (by simp [h])
      · exact .inr h
theorem foldO_size (n : ByteArray) (M : Nat) : ∀ (ps : List S68) (v : ByteArray) (k : Nat), v.size ≤ M → (∀ p ∈ ps, p.f1.size ≤ M) → (foldO n ps v k).1.size ≤ M
  | [], v, k, hv, _ => by
    unfold foldO
    split
    · exact Nat.zero_le _
    · exact hv
  | p :: r, v, k, hv, h => by
    unfold foldO
    split
    · exact foldO_size n M r _ _ (h p (by simp)) (fun q hq => h q (by simp [hq]))
    · exact foldO_size n M r _ _ hv (fun q hq => h q (by simp [hq]))
theorem one_of (ps : List S68) (hl : ps.length ≤ 4000000000000) (n : ByteArray) : Ev (fun k => urlform_One.f k ps n) (oneV n ps) := by
  have h := one_ev ps hl n ps.length 0 0 ⟨#[]⟩ (by omega) (Nat.le_refl _)
  rw [List.drop_zero] at h
  unfold urlform_One.f
  exact h
theorem proven_ev (c : CC) (p : Int) (word : ByteArray) (hp : p = 1 ∨ p = 2) (h1 : c.f1.size ≤ 140737488355328) (h2 : word.size ≤ 140737488355328) :
    Ev (fun k => client_proven.f k c.f0 c.f1 c.f2 c.f3 c.f4 c.f5 p word) (flatX (shownC c p word)) := by
  have hs : client_same.f c.f1 word = some (decide (c.f1 = word)) := if_pos ⟨h1, h2⟩
  have hj (hh : ¬ (p = 1 ∧ c.f1.toList = [])) : Ev (fun k => client_proven.j0 k p word c.f0 c.f1 c.f2 c.f3 c.f4 c.f5) (flatX (shownC c p word)) := by
    refine Ev.step (f := fun _ => some _) (fun k => ?_) (Ev.now _)
    simp only [client_proven.j0]
    rw [hs, Option.bind_some]
    unfold shownC
    rw [if_neg hh]
    by_cases e : c.f1 = word
    · rw [if_pos (decide_eq_true e), if_pos (show c.f1.toList = word.toList by rw [e])]
      split <;> rfl
    · rw [if_neg (by simpa using e), if_neg (fun h => e (toList_inj h))]
      rfl
  unfold client_proven.f
  rcases hp with rfl | rfl
  · refine Ev.pos rfl ?_
    by_cases e : c.f1.toList = []
    · refine Ev.pos e (Ev.eq (Ev.now _) ?_)
      unfold shownC
      rw [if_pos ⟨rfl, e⟩]
      rfl
    · exact Ev.neg e (hj (fun h => e h.2))
  · exact Ev.neg (by omega) (Ev.pos rfl (hj (fun h => by omega)))
theorem seen_ev (l : List CC) (hl : SmallC l) (hz : ∀ x ∈ l, x.f1.size ≤ 140737488351232) (p : Int) (hp : p = 1 ∨ p = 2) (name word : ByteArray) (hw : word.size ≤ 140737488355328) :
    Ev (fun k => client_Authenticate.j1 k l p name word) (flatX (seenL l p name word)) := by
  have hc : (foundC name l).1.f1.size ≤ 140737488355328 := by
    rcases foundC_mem name l with h | h
    · have := hz _ h; omega
    · rw [h]; decide
  refine Ev.step (fun k => by simp only [client_Authenticate.j1]; rfl) (Ev.bind (find_ev l hl name) ?_)
  unfold seenL
  by_cases h : (foundC name l).2 = true
  · rw [if_pos h]
    exact Ev.pos h (Ev.bind (proven_ev _ p word hp hc hw) (Ev.now _))
  · rw [if_neg h]
    exact Ev.neg h (Ev.now _)
theorem auth_ev (l : List CC) (hl : SmallC l) (hz : ∀ x ∈ l, x.f1.size ≤ 140737488351232) (header : ByteArray) (ps : List S68) (hn : ps.length ≤ 4000000000000) (hps : ∀ p ∈ ps, p.f1.size ≤ 140737488351232)
    (B : ByteArray × ByteArray × Int) (hB : header.toList ≠ [] → Ev (fun k => client_Basic.f k header) B) (hB2 : B.2.1.size ≤ 65536) : Ev (fun k => client_Authenticate.f k l header ps) (flatX (authL l header ps B)) := by
  have hw : (oneV aSecret ps).1.size ≤ 140737488355328 := by
    have := foldO_size aSecret 140737488351232 ps ⟨#[]⟩ 0 (Nat.zero_le _) hps
    unfold oneV; omega
  have hbad : Ev (fun k => client_Authenticate.j0 k l header (oneV aId ps).1 (oneV aId ps).2.1 (oneV aSecret ps).1 (oneV aSecret ps).2.1 true) (flatX (zX 34)) :=
    Ev.step (f := fun _ => some _) (fun k => by simp only [client_Authenticate.j0, if_true]; rfl) (Ev.now _)
  unfold client_Authenticate.f
  refine Ev.bind (one_of ps hn aId) (Ev.bind (one_of ps hn aSecret) ?_)
  unfold authL
  by_cases e1 : (oneV aId ps).2.2 = 0
  · refine Ev.pos e1 ?_
    by_cases e2 : (oneV aSecret ps).2.2 = 0
    · rw [if_pos ⟨e1, e2⟩, show ((oneV aSecret ps).2.2 != 0) = false by rw [e2]; rfl]
      generalize oneV aId ps = a at *
      generalize oneV aSecret ps = s at *
      refine Ev.step (fun k => by simp only [client_Authenticate.j0, Bool.false_eq_true, if_false]; rfl) ?_
      by_cases e3 : header.toList = []
      · rw [if_pos e3]
        refine Ev.pos e3 ?_
        by_cases e4 : a.2.1 = true
        · rw [if_pos e4]
          exact Ev.pos e4 (seen_ev l hl hz 2 (.inr rfl) _ _ hw)
        · rw [if_neg e4]
          exact Ev.neg e4 (Ev.now _)
      · rw [if_neg e3]
        refine Ev.neg e3 (Ev.bind (hB e3) ?_)
        have hs := seen_ev l hl hz 1 (.inl rfl) B.1 B.2.1 (by omega)
        by_cases e5 : B.2.2 = 0
        · rw [if_pos e5]
          refine Ev.pos e5 ?_
          by_cases e6 : s.2.1 = true
          · rw [if_pos e6]
            exact Ev.pos e6 (Ev.now _)
          · rw [if_neg e6]
            refine Ev.neg e6 ?_
            by_cases e7 : a.2.1 = true
            · refine Ev.pos e7 ?_
              by_cases e8 : a.1.toList = B.1.toList
              · rw [if_neg (fun h => h.2 e8)]
                exact Ev.pos e8 hs
              · rw [if_pos ⟨e7, e8⟩]
                exact Ev.neg e8 (Ev.now _)
            · rw [if_neg (fun h => e7 h.1)]
              exact Ev.neg e7 hs
        · rw [if_neg e5]
          exact Ev.neg e5 (Ev.now _)
    · rw [if_neg (fun h => e2 h.2), show ((oneV aSecret ps).2.2 != 0) = true by rw [bne_iff_ne]; exact e2]
      exact hbad
  · rw [if_neg (fun h => e1 h.1)]
    exact Ev.neg e1 hbad
end Go.Proofs.YtmimipgmhgalaaaGreatDoor.Pure
end
section
namespace Go.Proofs.YtmimipgmhgalaaaGreatDoor.Pure
open Go.RowKit Go.Proofs.YtmimipgmhgalaaaGreatDoorW.PrintWords Go.Proofs.YtmimipgmhgalaaaGreatDoor.Plain Go.Proofs.YtmimipgmhgalaaaGreatDoor.Spec Go.Proofs.YtmimipgmhgalaaaGreatDoor.PAll
set_option linter.unusedSimpArgs false
set_option linter.unusedVariables false
end Go.Proofs.YtmimipgmhgalaaaGreatDoor.Pure
end
section
namespace Go.Proofs.YtmimipgmhgalaaaGreatDoor.Pure
open Go.RowKit Go.Proofs.YtmimipgmhgalaaaGreatDoorW.PrintWords Go.Proofs.YtmimipgmhgalaaaGreatDoor.Plain Go.Proofs.YtmimipgmhgalaaaGreatDoor.PAll
set_option linter.unusedVariables false
theorem foldO_err (n : ByteArray) : ∀ (ps : List S68) (v : ByteArray) (k : Nat), (foldO n ps v k).2.2 = 0 ∨ (foldO n ps v k).2.2 = 34
  | [], v, k => by unfold foldO; split <;> simp
  | p :: r, v, k => by
    unfold foldO
    split
    · exact foldO_err n r _ _
    · exact foldO_err n r _ _
theorem auth_at (l : List CC) (hl : SmallC l) (hz : ∀ x ∈ l, x.f1.size ≤ 140737488351232) (header : ByteArray) (ps : List S68) (hn : ps.length ≤ 4000000000000) (hps : ∀ p ∈ ps, p.f1.size ≤ 140737488351232) (w : World) (hT : FoldT w)
    (B : ByteArray × ByteArray × Int) (hB1 : (header.size ≤ 1024 → 6 ≤ header.size → asciiS (header.extract 0 5) = true) → Ev (fun k => client_Basic.f k header) B) (hB3 : header.size ≤ 1024 → 6 ≤ header.size → asciiS (header.extract 0 5) = false → B = E3) (hB4 : B.2.1.size ≤ 65536) :
    AuthAt w l header ps (authL l header ps B).1 (authL l header ps B).2.1 (authL l header ps B).2.2 := by
  intro V A C ca cb hb h1 h2 h3 h4
  by_cases hw : header.size ≤ 1024 ∧ 6 ≤ header.size ∧ asciiS (header.extract 0 5) = false
  · obtain ⟨w1, w2, w3⟩ := hw
    obtain rfl := hB3 w1 w2 w3
    have hE : Ev (fun k => (urlform_One.f k ps aId).bind fun x => (urlform_One.f k ps aSecret).bind fun y => some (x, y)) (oneV aId ps, oneV aSecret ps) := Ev.bind (one_of ps hn aId) (Ev.bind (one_of ps hn aSecret) (Ev.now _))
    obtain ⟨k, hk⟩ := hE.rounds
    obtain ⟨o1, g1, hk⟩ := Option.bind_eq_some_iff.1 hk
    obtain ⟨o2, g2, hk⟩ := Option.bind_eq_some_iff.1 hk
    simp only [Option.some.injEq, Prod.mk.injEq] at hk
    obtain ⟨rfl, rfl⟩ := hk
    have hh : header.toList ≠ [] := by
      intro h
      have h5 : header.data.toList = [] := by rw [← ByteArray.toList_eq]; exact h
      have h6 : header.data.toList.length = header.size := by rw [Array.length_toList]; rfl
      rw [h5, List.length_nil] at h6
      omega
    have e : authL l header ps E3 = zX (wideE (oneV aId ps).2.2 (oneV aSecret ps).2.2) := by
      unfold authL wideE
      by_cases h : (oneV aId ps).2.2 = 0 ∧ (oneV aSecret ps).2.2 = 0
      · rw [if_pos h, if_pos h, if_neg hh]; rfl
      · rw [if_neg h, if_neg h]
    rw [e]
    refine (auth_wide k V A l.length ca header C cb ps h3 h4 w1 w2 w3 (hT.below hb) _ _ _ _ _ _ g1 g2 (foldO_err aId ps _ _) (foldO_err aSecret ps _ _)).mono ?_
    rintro e' w' ⟨rfl, hb'⟩
    exact ⟨.slice none 0 0, rfl, Kd.R_nil _ _ _ _ _, hb'⟩
  · have hasc : header.size ≤ 1024 → 6 ≤ header.size → asciiS (header.extract 0 5) = true := fun e1 e2 => by
      cases h : asciiS (header.extract 0 5) with
      | true => rfl
      | false => exact absurd ⟨e1, e2, h⟩ hw
    obtain ⟨k, hk⟩ := (auth_ev l hl hz header ps hn hps B (fun _ => hB1 hasc) hB4).rounds
    exact client_Authenticate.calls k A ca l header C cb ps _ _ _ _ _ _ _ _ V h1 h2 h3 h4 hk
end Go.Proofs.YtmimipgmhgalaaaGreatDoor.Pure
end
section
namespace Go.Proofs.YtmimipgmhgalaaaGreatDoor.Pure
open Go.RowKit Go.Proofs.YtmimipgmhgalaaaGreatDoorW.PrintWords Go.Proofs.YtmimipgmhgalaaaGreatDoor.Plain Go.Proofs.YtmimipgmhgalaaaGreatDoor.Spec Go.Proofs.YtmimipgmhgalaaaGreatDoor.PAll
set_option linter.unusedSimpArgs false
set_option linter.unusedVariables false
theorem bs_app (a b : List UInt8) : bs a ++ bs b = bs (a ++ b) := by
  have : (bs a ++ bs b).data.toList = (bs (a ++ b)).data.toList := by simp [bs]
  rw [← bs_of (bs a ++ bs b), this, bs_of]
theorem bytes_loop (s : ByteArray) (hs : s.size ≤ 140737488355328) (lo up least most : Nat) : ∀ (m i : Nat), i + m = s.size →
    Ev (fun k => wicketref11_bytes.l0 k s (lo : Int) (up : Int) (least : Int) (most : Int) (i : Int)) ((s.data.toList.drop i).all (fun c => decide (lo ≤ c.toNat) && decide (c.toNat ≤ up)) && (decide (least ≤ s.size) && decide (s.size ≤ most))) := by
  intro m
  induction m with
  | zero =>
    intro i hi
    rw [List.drop_eq_nil_of_le (by rw [data_len]; omega), List.all_nil, Bool.true_and]
    by_cases h : least ≤ s.size
    · refine Ev.step (f := fun _ => some (decide ((s.size : Int) ≤ (most : Int)))) (fun k => ?_) (Ev.eq (Ev.now _) ?_)
      · simp only [wicketref11_bytes.l0]; rw [if_neg (by omega), if_pos (by omega)]
      · rw [decide_eq_true h, Bool.true_and, decide_eq_decide]; omega
    · refine Ev.step (f := fun _ => some false) (fun k => ?_) (Ev.eq (Ev.now _) ?_)
      · simp only [wicketref11_bytes.l0]; rw [if_neg (by omega), if_neg (by omega)]
      · rw [decide_eq_false h, Bool.false_and]
  | succ m ih =>
    intro i hi
    have hlt : i < s.size := by omega
    have hbt := btC s i hlt
    rw [drop_at s i hlt, List.all_cons]
    have ih1 := ih (i + 1) (by omega)
    generalize s[i] = c at *
    by_cases h1 : lo ≤ c.toNat
    · by_cases h2 : c.toNat ≤ up
      · rw [decide_eq_true h1, decide_eq_true h2, Bool.true_and, Bool.true_and]
        refine Ev.step (fun k => ?_) ih1
        simp only [wicketref11_bytes.l0]
        rw [if_pos (by omega), if_pos (by omega), hbt, if_neg (by omega), if_neg (by omega), w64 (by omega) (by omega)]
        rfl
      · rw [decide_eq_false h2, Bool.and_false, Bool.false_and, Bool.false_and]
        refine Ev.step (f := fun _ => some false) (fun k => ?_) (Ev.now _)
        simp only [wicketref11_bytes.l0]
        rw [if_pos (by omega), if_pos (by omega), hbt, if_neg (by omega), if_pos (by omega)]
    · rw [decide_eq_false h1, Bool.false_and, Bool.false_and, Bool.false_and]
      refine Ev.step (f := fun _ => some false) (fun k => ?_) (Ev.now _)
      simp only [wicketref11_bytes.l0]
      rw [if_pos (by omega), if_pos (by omega), hbt, if_pos (by omega)]
theorem bytes_ev (s : ByteArray) (hs : s.size ≤ 140737488355328) (least most lo : Nat) : Ev (fun k => wicketref11_bytes.f k s (lo : Int) 126 (least : Int) (most : Int)) (withinL s.data.toList least most lo) := by
  unfold wicketref11_bytes.f withinL
  have := bytes_loop s hs lo 126 least most s.size 0 (by omega)
  rw [data_len]
  exact this
theorem texts_loop (a b : List ByteArray) (ha : a.length ≤ 140737488355328) (hab : a.length = b.length) : ∀ (m i : Nat), i + m = a.length →
    Ev (fun k => wicketref11_texts.l0 k a b (i : Int)) (decide (a.drop i = b.drop i)) := by
  intro m
  induction m with
  | zero =>
    intro i hi
    refine Ev.step (f := fun _ => some true) (fun k => ?_) (Ev.eq (Ev.now _) ?_)
    · simp only [wicketref11_texts.l0]; rw [if_neg (by omega)]
    · rw [List.drop_eq_nil_of_le (by omega), List.drop_eq_nil_of_le (by omega)]; rfl
  | succ m ih =>
    intro i hi
    have hlt : i < a.length := by omega
    have hlb : i < b.length := by omega
    rw [drop_cons a i hlt, drop_cons b i hlb]
    by_cases h : a[i] = b[i]
    · refine Ev.step (fun k => ?_) (Ev.eq (ih (i + 1) (by omega)) ?_)
      · simp only [wicketref11_texts.l0]
        rw [if_pos (by omega), if_pos (by omega), if_pos (by omega), rdOf_get _ _ _ hlt, rdOf_get _ _ _ hlb, if_pos (by rw [h]), w64 (by omega) (by omega)]
        rfl
      · rw [decide_eq_decide, List.cons.injEq]
        exact ⟨fun e => ⟨h, e⟩, fun e => e.2⟩
    · refine Ev.step (f := fun _ => some false) (fun k => ?_) (Ev.eq (Ev.now _) ?_)
      · simp only [wicketref11_texts.l0]
        rw [if_pos (by omega), if_pos (by omega), if_pos (by omega), rdOf_get _ _ _ hlt, rdOf_get _ _ _ hlb, if_neg (fun e => h (by rw [← bs_of a[i], ← bs_of b[i], ← toList_data, ← toList_data, e]))]
      · rw [decide_eq_false (fun e => h (List.cons.inj e).1)]
theorem texts_ev (a b : List ByteArray) (ha : a.length ≤ 140737488355328) : Ev (fun k => wicketref11_texts.f k a b) (decide (a = b)) := by
  unfold wicketref11_texts.f
  by_cases h : a.length = b.length
  · refine Ev.pos (by omega) ?_
    exact texts_loop a b ha h a.length 0 (by omega)
  · refine Ev.neg (by omega) (Ev.eq (Ev.now _) ?_)
    rw [decide_eq_false (fun e => h (by rw [e]))]
theorem joined_tail (l : List ByteArray) (hn : l.length ≤ 140737488355328) : ∀ (m i : Nat) (a : List UInt8), i + m = l.length → 0 < i →
    a.length + (Lib.joinTail [32] ((l.drop i).map (·.data.toList))).length ≤ 140737488355328 →
    Ev (fun k => wicketref11_Joined.l0 k l (bs a) (i : Int)) (bs (a ++ Lib.joinTail [32] ((l.drop i).map (·.data.toList)))) := by
  intro m
  induction m with
  | zero =>
    intro i a hi h0 hl
    refine Ev.step (f := fun _ => some (bs a)) (fun k => ?_) (Ev.eq (Ev.now _) ?_)
    · simp only [wicketref11_Joined.l0]; rw [if_neg (by omega)]
    · rw [List.drop_eq_nil_of_le (by omega)]; simp [Lib.joinTail]
  | succ m ih =>
    intro i a hi h0 hl
    have hlt : i < l.length := by omega
    have e : Lib.joinTail [32] ((l.drop i).map (·.data.toList)) = [32] ++ l[i].data.toList ++ Lib.joinTail [32] ((l.drop (i + 1)).map (·.data.toList)) := by
      rw [drop_cons l i hlt, List.map_cons]
      unfold Lib.joinTail
      rw [List.map_cons, List.flatten_cons]
    rw [e] at hl ⊢
    simp only [List.length_append, List.length_cons, List.length_nil] at hl
    have hsz : l[i].size = l[i].data.toList.length := (data_len _).symm
    refine Ev.step (fun k => ?_) (Ev.eq (ih (i + 1) (a ++ ([32] ++ l[i].data.toList)) (by omega) (by omega) (by simp only [List.length_append, List.length_cons, List.length_nil]; omega)) ?_)
    · simp only [wicketref11_Joined.l0]
      rw [if_pos (by omega), if_pos (by omega), if_pos (by rw [bs_size]; omega), if_pos (by omega), rdOf_get _ _ _ hlt]
      have e2 : (bs a ++ (⟨#[32]⟩ : ByteArray)) = bs (a ++ [32]) := bs_app a [32]
      rw [e2, if_pos (by rw [bs_size]; simp only [List.length_append, List.length_cons, List.length_nil]; omega), w64 (by omega) (by omega)]
      conv => lhs; rw [← bs_of l[i], bs_app, List.append_assoc]
      rfl
    · congr 1; simp
theorem joined_ev (l : List ByteArray) (hn : l.length ≤ 140737488355328) (hj : (joinedL l).length ≤ 140737488355328) : Ev (fun k => wicketref11_Joined.f k l) (bs (joinedL l)) := by
  unfold wicketref11_Joined.f
  cases l with
  | nil =>
    refine Ev.step (f := fun _ => some (⟨#[]⟩ : ByteArray)) (fun k => ?_) (Ev.eq (Ev.now _) rfl)
    simp only [wicketref11_Joined.l0]; rw [if_neg (by simp)]
  | cons x r =>
    have e : joinedL (x :: r) = x.data.toList ++ Lib.joinTail [32] (((x :: r).drop 1).map (·.data.toList)) := by
      unfold joinedL; rw [List.map_cons, Lib.join_cons]; rfl
    rw [e] at hj ⊢
    simp only [List.length_append] at hj
    have hsz : x.size = x.data.toList.length := (data_len _).symm
    refine Ev.step (fun k => ?_) (joined_tail (x :: r) hn r.length 1 x.data.toList (by simp; omega) (by omega) hj)
    simp only [wicketref11_Joined.l0]
    rw [if_pos (by first | (simp; done) | (simp; omega)), if_neg (by omega), if_pos (by omega), show rdOf ByteArray.empty (x :: r) (0 : Int) = x from rfl, if_pos (by rw [show (⟨#[]⟩ : ByteArray).size = 0 from rfl]; omega), w64 (by omega) (by omega), show ((⟨#[]⟩ : ByteArray) ++ x) = bs x.data.toList from by
      have := bs_app [] x.data.toList
      rw [bs_of, List.nil_append] at this
      exact this]
    rfl
end Go.Proofs.YtmimipgmhgalaaaGreatDoor.Pure
end
section
namespace Go.Proofs.YtmimipgmhgalaaaGreatDoor.Pure
open Go.RowKit Go.Proofs.YtmimipgmhgalaaaGreatDoorW.PrintWords Go.Proofs.YtmimipgmhgalaaaGreatDoor.Plain Go.Proofs.YtmimipgmhgalaaaGreatDoor.Spec Go.Proofs.YtmimipgmhgalaaaGreatDoor.PAll
set_option linter.unusedSimpArgs false
set_option linter.unusedVariables false
theorem letter_eq (c : UInt8) : wicketref03_Letter.f (c.toNat : Int) = some (letterB c) := by
  unfold wicketref03_Letter.f letterB
  by_cases h1 : (c.toNat : Int) = 33
  · rw [if_pos h1, decide_eq_true (by omega)]
  · rw [if_neg h1]
    by_cases h2 : (c.toNat : Int) ≥ 35
    · rw [if_pos h2]
      by_cases h3 : (c.toNat : Int) ≤ 91
      · rw [if_pos h3, decide_eq_true (by omega)]
      · rw [if_neg h3]
        by_cases h4 : (c.toNat : Int) ≥ 93
        · rw [if_pos h4]
          congr 1
          rw [decide_eq_decide]
          omega
        · rw [if_neg h4, decide_eq_false (by omega)]
    · rw [if_neg h2, if_neg (by omega), decide_eq_false (by omega)]
theorem put_done (L : List (List UInt8)) (s : List UInt8) (hL : L.length ≤ 20000) : ∀ (m i : Nat) (out : List (List UInt8)), i + m = L.length → s ∉ L.drop i → out.length ≤ 30000 + i →
    Ev (fun k => wicketref03_put.l0 k (L.map bs) (bs s) (out.map bs) true (i : Int)) ((out ++ L.drop i).map bs) := by
  have hal : (L.map bs).length = L.length := List.length_map ..
  intro m
  induction m with
  | zero =>
    intro i out hi hs ho
    refine Ev.step (f := fun _ => some (out.map bs)) (fun k => ?_) (Ev.eq (Ev.now _) ?_)
    · simp only [wicketref03_put.l0]
      rw [if_neg (by omega), if_pos trivial]
    · rw [List.drop_eq_nil_of_le (by omega), List.append_nil]
  | succ m ih =>
    intro i out hi hs ho
    have hlt : i < L.length := by omega
    have hol : (out.map bs).length = out.length := List.length_map ..
    have hrd := rd_bs L i hlt
    rw [drop_cons L i hlt] at hs ⊢
    simp only [List.mem_cons, not_or] at hs
    have key := ih (i + 1) (out ++ [L[i]]) (by omega) hs.2 (by rw [List.length_append, List.length_singleton]; omega)
    rw [List.append_assoc, List.singleton_append] at key
    generalize L[i] = x at *
    have hne : ¬ (bs x).toList = (bs s).toList := by rw [bs_toList, bs_toList]; exact fun e => hs.1 e.symm
    refine Ev.step (fun k => ?_) key
    simp only [wicketref03_put.l0]
    rw [if_pos (by omega), if_pos (by omega), hrd, if_neg hne, if_pos trivial, if_pos (by omega), w64 (by omega) (by omega), List.map_append]
    rfl
theorem put_find (L : List (List UInt8)) (s : List UInt8) (hL : L.length ≤ 20000) (hr : Rising L) : ∀ (m i : Nat), i + m = L.length →
    Ev (fun k => wicketref03_put.l0 k (L.map bs) (bs s) ((L.take i).map bs) false (i : Int)) ((L.take i ++ putL (L.drop i) s).map bs) := by
  have hal : (L.map bs).length = L.length := List.length_map ..
  intro m
  induction m with
  | zero =>
    intro i hi
    have hol : ((L.take i).map bs).length = i := by rw [List.length_map, List.length_take]; omega
    refine Ev.step (f := fun _ => some ((L.take i).map bs ++ [bs s])) (fun k => ?_) (Ev.eq (Ev.now _) ?_)
    · simp only [wicketref03_put.l0]
      rw [if_neg (by omega), if_neg (by simp), if_pos (by omega)]
    · rw [List.drop_eq_nil_of_le (by omega), List.map_append]; rfl
  | succ m ih =>
    intro i hi
    have hlt : i < L.length := by omega
    have hol : ((L.take i).map bs).length = i := by rw [List.length_map, List.length_take]; omega
    have hrd := rd_bs L i hlt
    have htk := List.take_succ_eq_append_getElem hlt
    have hdr := drop_cons L i hlt
    have hri : Rising (L.drop i) := List.Pairwise.sublist (List.drop_sublist i L) hr
    rw [hdr] at hri
    have hr1 := List.pairwise_cons.1 hri
    have key := ih (i + 1) (by omega)
    have hdone := put_done L s hL m (i + 1) (L.take i ++ [s, L[i]]) (by omega)
    have hwhole : L.take i ++ L.drop i = L := List.take_append_drop i L
    rw [hdr] at hwhole ⊢
    rw [htk] at key
    generalize L[i] = x at *
    unfold putL
    by_cases he : x = s
    · rw [if_pos he, hwhole]
      refine Ev.step (f := fun _ => some (L.map bs)) (fun k => ?_) (Ev.now _)
      simp only [wicketref03_put.l0]
      rw [if_pos (by omega), if_pos (by omega), hrd, if_pos (by rw [he])]
    · rw [if_neg he]
      have hne : ¬ (bs x).toList = (bs s).toList := by rw [bs_toList, bs_toList]; exact he
      by_cases hlt2 : s < x
      · rw [if_pos hlt2]
        have hb : Op.bytesLess (bs s).toList (bs x).toList = true := by rw [bs_toList, bs_toList, Go.Proofs.bytesLess_eq]; exact decide_eq_true hlt2
        have hd := hdone (fun hm => List.lt_irrefl s (List.lt_trans hlt2 (hr1.1 s hm))) (by rw [List.length_append, List.length_take]; simp; omega)
        have e : L.take i ++ [s, x] ++ L.drop (i + 1) = L.take i ++ s :: x :: L.drop (i + 1) := by simp
        rw [e] at hd
        refine Ev.step (fun k => ?_) hd
        simp only [wicketref03_put.l0]
        rw [if_pos (by omega), if_pos (by omega), hrd, if_neg hne, if_neg (by simp), if_pos hb, if_pos (by omega), Option.bind_some, if_pos (by rw [List.length_append, List.length_singleton]; omega), w64 (by omega) (by omega)]
        simp only [List.map_append, List.append_assoc]
        rfl
      · rw [if_neg hlt2]
        have hb : ¬ Op.bytesLess (bs s).toList (bs x).toList = true := by rw [bs_toList, bs_toList, Go.Proofs.bytesLess_eq]; simpa using hlt2
        rw [List.append_assoc, List.singleton_append] at key
        refine Ev.step (fun k => ?_) key
        simp only [wicketref03_put.l0]
        rw [if_pos (by omega), if_pos (by omega), hrd, if_neg hne, if_neg (by simp), if_neg hb, if_pos (by omega), w64 (by omega) (by omega), List.map_append]
        rfl
theorem put_ev (L : List (List UInt8)) (s : List UInt8) (hL : L.length ≤ 20000) (hr : Rising L) : Ev (fun k => wicketref03_put.f k (L.map bs) (bs s)) ((putL L s).map bs) := by
  unfold wicketref03_put.f
  exact put_find L s hL hr L.length 0 (by omega)
theorem splitL_has (c : UInt8) : ∀ (l : List UInt8) (x : UInt8), x ∈ l → x ≠ c → ∃ p ∈ splitL c l, x ∈ p
  | y :: r, x, h, hx => by
    by_cases hy : y = c
    · subst hy
      rw [splitL_same]
      rcases List.mem_cons.1 h with rfl | h
      · exact absurd rfl hx
      · obtain ⟨p, hp, hm⟩ := splitL_has y r x h hx
        exact ⟨p, List.mem_cons_of_mem _ hp, hm⟩
    · obtain ⟨q, ps, hq⟩ : ∃ p ps, splitL c r = p :: ps := by
        cases hr : splitL c r with
        | nil => exact absurd hr (splitL_ne c r)
        | cons p ps => exact ⟨p, ps, rfl⟩
      rw [splitL_other c y r q ps hy hq]
      rcases List.mem_cons.1 h with rfl | h
      · exact ⟨_, List.mem_cons_self, List.mem_cons_self⟩
      · obtain ⟨p, hp, hm⟩ := splitL_has c r x h hx
        rw [hq] at hp
        rcases List.mem_cons.1 hp with rfl | hp
        · exact ⟨_, List.mem_cons_self, List.mem_cons_of_mem _ hm⟩
        · exact ⟨p, List.mem_cons_of_mem _ hp, hm⟩
def restS (l : List UInt8) (j : Nat) : List (List UInt8) := if j ≤ l.length then splitL 32 (l.drop j) else []
def finS (ps L : List (List UInt8)) : List (List UInt8) × Int := if ps.any badP = true then ([], 33) else if 32 < (ps.foldl putL L).length then ([], 32) else (ps.foldl putL L, 0)
theorem extractS (s : ByteArray) (a b : Nat) (h : b ≤ s.size) : (s.extract a b).data.toList = (s.data.toList.drop a).take (b - a) := by
  rw [ByteArray.data_extract, Array.toList_extract]
theorem btS (s : ByteArray) (i : Nat) (h : i < s.size) : bt s (i : Int) = (s[i].toNat : Int) := by
  unfold bt
  rw [dif_pos (by simpa using h)]
  rfl
theorem u8S (c : UInt8) (n : Nat) (h : c.toNat = n) : c = UInt8.ofNat n := by rw [← h, UInt8.ofNat_toNat]
theorem refscopes_loop (s : ByteArray) (hs : s.size ≤ 256) : ∀ (m a i : Nat) (L : List (List UInt8)), i + m = s.size + 1 → a ≤ i → (m = 0 → a = i) → L.length ≤ a → Rising L → (∀ x ∈ (s.data.toList.drop a).take (i - a), letterB x = true) →
    Ev (fun k => wicketref03_Scopes.l0 k s (L.map bs) (a : Int) (i : Int)) (resS (finS (restS s.data.toList a) L)) := by
  intro m
  induction m with
  | zero =>
    intro a i L hi hai h0 hL hr _
    have := h0 rfl
    subst this
    have hal : (L.map bs).length = L.length := List.length_map ..
    have hfin : restS s.data.toList a = [] := by unfold restS; rw [if_neg (by rw [data_len]; omega)]
    rw [hfin]
    unfold finS
    rw [List.any_nil, if_neg (by simp), List.foldl_nil]
    by_cases h32 : 32 < L.length
    · rw [if_pos h32]
      refine Ev.step (f := fun _ => some ([], 32)) (fun k => ?_) (Ev.eq (Ev.now _) rfl)
      simp only [wicketref03_Scopes.l0]
      rw [if_neg (by omega), if_pos (by omega)]
    · rw [if_neg h32]
      refine Ev.step (f := fun _ => some (L.map bs, 0)) (fun k => ?_) (Ev.eq (Ev.now _) rfl)
      simp only [wicketref03_Scopes.l0]
      rw [if_neg (by omega), if_neg (by omega)]
  | succ m ih =>
    intro a i L hi hai _ hL hr hlet
    by_cases hgo : ∃ h : i < s.size, s[i] ≠ 32
    · obtain ⟨hlt, hne⟩ := hgo
      have hbt := btS s i hlt
      have hne' : ((s[i].toNat : Int) != 32) = true := by
        rw [bne_iff_ne]; exact fun e => hne (u8S _ 32 (by omega))
      have hlen : i - a < (s.data.toList.drop a).length := by rw [List.length_drop, data_len]; omega
      have hget : (s.data.toList.drop a)[i - a] = s[i] := by
        rw [List.getElem_drop]
        have : ∀ (j : Nat) (h : j < s.data.toList.length), j = i → s.data.toList[j] = s[i] := by rintro j h rfl; rfl
        exact this _ _ (by omega)
      have hle := letter_eq s[i]
      refine Ev.step (f := fun k => wicketref03_Scopes.j1 k s (L.map bs) (a : Int) (i : Int) true) (fun k => ?_) ?_
      · simp only [wicketref03_Scopes.l0]
        rw [if_pos (by omega), if_pos (by omega), if_pos (by omega), hbt, hne']
      · cases hc : letterB s[i] with
        | false =>
          rw [hc] at hle
          have hbad : (restS s.data.toList a).any badP = true := by
            unfold restS
            rw [if_pos (by rw [data_len]; omega)]
            obtain ⟨p, hp, hm⟩ := splitL_has 32 (s.data.toList.drop a) s[i] (by rw [← hget]; exact List.getElem_mem hlen) hne
            rw [List.any_eq_true]
            refine ⟨p, hp, ?_⟩
            unfold badP
            rw [Bool.or_eq_true, List.any_eq_true]
            exact .inr ⟨_, hm, by rw [hc]; rfl⟩
          unfold finS
          rw [if_pos hbad]
          refine Ev.step (f := fun _ => some ([], 33)) (fun k => ?_) (Ev.eq (Ev.now _) rfl)
          simp only [wicketref03_Scopes.j1, if_true]
          rw [if_pos (by omega), if_pos (by omega), hbt, hle, Option.bind_some, if_neg (by simp)]
        | true =>
          rw [hc] at hle
          refine Ev.step (fun k => ?_) (ih a (i + 1) L (by omega) (by omega) (by omega) hL hr ?_)
          · simp only [wicketref03_Scopes.j1, if_true]
            rw [if_pos (by omega), if_pos (by omega), hbt, hle, Option.bind_some, if_pos rfl, w64 (by omega) (by omega)]
            rfl
          · rw [show i + 1 - a = (i - a) + 1 by omega, List.take_succ_eq_append_getElem hlen, hget]
            intro x hx
            rcases List.mem_append.1 hx with hx | hx
            · exact hlet x hx
            · rw [List.mem_singleton] at hx; rw [hx]; exact hc
    · have h32 : 32 ∉ (s.data.toList.drop a).take (i - a) := fun hm => by have := hlet 32 hm; rw [letter_space] at this; cases this
      have hrest : restS s.data.toList a = (s.data.toList.drop a).take (i - a) :: restS s.data.toList (i + 1) := by
        unfold restS
        rw [data_len, if_pos (by omega)]
        by_cases hlt : i < s.size
        · have h32i : s[i] = 32 := Classical.byContradiction fun e => hgo ⟨hlt, e⟩
          rw [if_pos (by omega)]
          have hcut : s.data.toList.drop a = (s.data.toList.drop a).take (i - a) ++ 32 :: s.data.toList.drop (i + 1) := by
            conv => lhs; rw [← List.take_append_drop (i - a) (s.data.toList.drop a)]
            congr 1
            rw [List.drop_drop, show a + (i - a) = i by omega, drop_at s i hlt, h32i]
          conv => lhs; rw [hcut]
          rw [splitL_hit 32 _ _ h32]
        · rw [if_neg (by omega)]
          have hz : (s.data.toList.drop a).take (i - a) = s.data.toList.drop a := List.take_of_length_le (by rw [List.length_drop, data_len]; omega)
          rw [hz] at h32 ⊢
          exact splitL_whole 32 _ h32
      have hplen : ((s.data.toList.drop a).take (i - a)).length = i - a := by rw [List.length_take, List.length_drop, data_len]; omega
      rw [hrest]
      have hl0 : ∀ r, Ev (fun k => wicketref03_Scopes.j1 k s (L.map bs) (a : Int) (i : Int) false) r → Ev (fun k => wicketref03_Scopes.l0 k s (L.map bs) (a : Int) (i : Int)) r := by
        refine fun r h => Ev.step (fun k => ?_) h
        simp only [wicketref03_Scopes.l0]
        rw [if_pos (by omega)]
        by_cases hlt : i < s.size
        · have h32i : s[i] = 32 := Classical.byContradiction fun e => hgo ⟨hlt, e⟩
          have hbt := btS s i hlt
          rw [if_pos (by omega), if_pos (by omega), hbt, h32i]
          rfl
        · rw [if_neg (by omega)]
      refine hl0 _ ?_
      have hx : bs ((s.data.toList.drop a).take (i - a)) = s.extract a i := by rw [← extractS s a i (by omega), bs_of]
      have hw : wrap64 ((i : Int) + 1) = ((i + 1 : Nat) : Int) := by rw [w64 (by omega) (by omega)]; rfl
      generalize hp : (s.data.toList.drop a).take (i - a) = p at *
      unfold finS
      rw [List.any_cons]
      by_cases h1 : p = []
      · have hbp : badP p = true := by rw [h1]; rfl
        rw [hbp, Bool.true_or, if_pos rfl]
        rw [h1] at hplen
        simp only [List.length_nil] at hplen
        refine Ev.step (f := fun _ => some ([], 33)) (fun k => ?_) (Ev.eq (Ev.now _) rfl)
        simp only [wicketref03_Scopes.j1]
        rw [if_neg (by simp), if_pos (by omega)]
      · have hbp : badP p = false := by
          unfold badP
          rw [Bool.or_eq_false_iff]
          refine ⟨by cases p <;> simp_all, ?_⟩
          rw [List.any_eq_false]
          intro x hxm
          rw [hlet x hxm]
          simp
        rw [hbp, Bool.false_or, List.foldl_cons]
        have hpos : 0 < p.length := List.length_pos_iff.2 h1
        have hpl := putL_len p L
        refine Ev.step (f := fun k => (wicketref03_put.f k (L.map bs) (bs p)).bind fun t243 => (wicketref03_Scopes.l0 k s t243 ((i + 1 : Nat) : Int) ((i + 1 : Nat) : Int))) (fun k => ?_) ?_
        · simp only [wicketref03_Scopes.j1]
          rw [if_neg (by simp), if_neg (by omega), if_pos (by omega), if_pos (by omega), if_pos (by omega), hw, Int.toNat_natCast, Int.toNat_natCast, hx]
        · refine Ev.bind (put_ev L p (by omega) hr) ?_
          exact ih (i + 1) (i + 1) (putL L p) (by omega) (by omega) (fun _ => rfl) (by omega) (putL_rising p L hr) (by simp)
theorem refscopes_ev (s : ByteArray) : Ev (fun k => wicketref03_Scopes.f k s) (resS (scopesL s.data.toList)) := by
  unfold wicketref03_Scopes.f scopesL
  rw [data_len]
  by_cases h : 256 < s.size
  · rw [if_pos h]
    exact Ev.pos (by omega) (Ev.now _)
  · rw [if_neg h]
    refine Ev.neg (by omega) ?_
    by_cases h1 : s.data.toList = []
    · rw [if_pos h1]
      exact Ev.pos (by rw [toList_data]; exact h1) (Ev.now _)
    · rw [if_neg h1]
      refine Ev.neg (by rw [toList_data]; exact h1) ?_
      exact refscopes_loop s (by omega) (s.size + 1) 0 0 [] (by omega) (by omega) (by omega) (by simp) List.Pairwise.nil (by simp)
theorem scopesL_len (l : List UInt8) : (scopesL l).1.length ≤ 32 := by
  unfold scopesL
  split
  · simp
  · split
    · simp
    · split
      · simp
      · split
        · simp
        · simp; omega
end Go.Proofs.YtmimipgmhgalaaaGreatDoor.Pure
end
section
namespace Go.Proofs.YtmimipgmhgalaaaGreatDoor.Pure
open Go.RowKit Go.Proofs.YtmimipgmhgalaaaGreatDoorW.PrintWords Go.Proofs.YtmimipgmhgalaaaGreatDoor.Plain Go.Proofs.YtmimipgmhgalaaaGreatDoor.Spec Go.Proofs.YtmimipgmhgalaaaGreatDoor.PAll
set_option linter.unusedSimpArgs false
set_option linter.unusedVariables false
def urlR (c : ClT) : Bool := if c.pg = true then withinL c.u.data.toList 9 256 33 && Lib.hasPrefix c.u.data.toList httpsL else decide (c.u.data.toList = [])
def sixR (c : ClT) : Bool := if c.pg = true then decide (2 ≤ c.gr) && decide (c.s.data.toList ≠ []) else true
theorem url_ev (c : ClT) (hs : Small c) : Ev (fun k => wicketref11_url.f k c.i c.s c.gr c.pg c.u c.sc) (urlR c) := by
  unfold wicketref11_url.f urlR
  cases hp : c.pg with
  | false =>
    refine Ev.neg (by simp) (Ev.eq (Ev.now _) ?_)
    rw [if_neg (by simp), toList_data]
    cases c.u.data.toList <;> simp
  | true =>
    rw [if_pos rfl]
    refine Ev.pos rfl (Ev.bind (bytes_ev c.u hs.u 9 256 33) ?_)
    cases e : withinL c.u.data.toList 9 256 33 with
    | false => exact Ev.neg (by simp) (Ev.eq (Ev.now _) (by simp))
    | true =>
      have hl : 9 ≤ c.u.size := by
        have := e
        unfold withinL at this
        simp only [Bool.and_eq_true, decide_eq_true_eq, data_len] at this
        exact this.2.1
      refine Ev.pos rfl (Ev.pos (by omega) (Ev.pos (by omega) (Ev.eq (Ev.now _) ?_)))
      rw [toList_data, extractS _ _ _ (by omega), Bool.true_and, List.drop_zero]
      unfold Lib.hasPrefix httpsL
      rw [Bool.eq_iff_iff, beq_iff_eq, List.isPrefixOf_iff_prefix, List.prefix_iff_eq_take]
      exact ⟨fun e => e.symm, fun e => e.symm⟩
theorem bits_two (g : Int) (h1 : 1 ≤ g) (h3 : g ≤ 3) : decide (Go.bits .and .i64 g 2 ≠ 0) = decide (2 ≤ g) := by
  have : g = 1 ∨ g = 2 ∨ g = 3 := by omega
  rcases this with rfl | rfl | rfl <;> rfl
theorem check_same (c : ClT) : (withinL c.i.data.toList 1 64 33 && (withinL c.s.data.toList 0 256 32 && (decide (1 ≤ c.gr ∧ c.gr ≤ 3) && (sixR c && (urlR c && scopesOk c.sc))))) = checkL c := by
  unfold checkL sixR urlR urlL
  by_cases h : 1 ≤ c.gr ∧ c.gr ≤ 3
  · rw [bits_two c.gr h.1 h.2]
    cases c.pg <;> simp [Bool.and_assoc]
  · rw [decide_eq_false h]; simp
theorem refcheck_ev (c : ClT) (hs : Small c) : Ev (fun k => wicketref11_Check.f k c.i c.s c.gr c.pg c.u c.sc) (numC (checkL c)) := by
  have hj1 : ∀ b5 b6 : Bool, Ev (fun k => wicketref11_Check.j1 k b5 b6 c.i c.s c.gr c.pg c.u c.sc) (numC (withinL c.i.data.toList 1 64 33 && (withinL c.s.data.toList 0 256 32 && (decide (1 ≤ c.gr ∧ c.gr ≤ 3) && (b6 && (urlR c && b5)))))) := by
    intro b5 b6
    refine Ev.step (f := fun k => (wicketref11_bytes.f k c.i 33 126 1 64).bind fun t330 => if t330 = true then ((wicketref11_bytes.f k c.s 32 126 0 256).bind fun t331 => if t331 = true then (if c.gr ≥ 1 then (if c.gr ≤ 3 then (if b6 = true then ((wicketref11_url.f k c.i c.s c.gr c.pg c.u c.sc).bind fun t332 => if t332 = true then (if b5 = true then some 0 else some 111) else some 111) else some 111) else some 111) else some 111) else some 111) else some 111) (fun k => by simp only [wicketref11_Check.j1]) ?_
    refine Ev.bind (bytes_ev c.i hs.i 1 64 33) ?_
    cases withinL c.i.data.toList 1 64 33 with
    | false => exact Ev.neg (by simp) (Ev.eq (Ev.now _) (by simp [numC]))
    | true =>
      refine Ev.pos rfl (Ev.bind (bytes_ev c.s hs.s 0 256 32) ?_)
      cases withinL c.s.data.toList 0 256 32 with
      | false => exact Ev.neg (by simp) (Ev.eq (Ev.now _) (by simp [numC]))
      | true =>
        refine Ev.pos rfl ?_
        by_cases g1 : c.gr ≥ 1
        · by_cases g2 : c.gr ≤ 3
          · rw [decide_eq_true (show 1 ≤ c.gr ∧ c.gr ≤ 3 from ⟨g1, g2⟩)]
            refine Ev.pos g1 (Ev.pos g2 ?_)
            cases b6 with
            | false => exact Ev.neg (by simp) (Ev.eq (Ev.now _) (by simp [numC]))
            | true =>
              refine Ev.pos rfl (Ev.bind (url_ev c hs) ?_)
              cases urlR c with
              | false => exact Ev.neg (by simp) (Ev.eq (Ev.now _) (by simp [numC]))
              | true =>
                cases b5 with
                | false => exact Ev.pos rfl (Ev.neg (by simp) (Ev.eq (Ev.now _) (by simp [numC])))
                | true => exact Ev.pos rfl (Ev.pos rfl (Ev.eq (Ev.now _) (by simp [numC])))
          · exact Ev.pos g1 (Ev.neg g2 (Ev.eq (Ev.now _) (by rw [decide_eq_false (by omega)]; simp [numC])))
        · exact Ev.neg g1 (Ev.eq (Ev.now _) (by rw [decide_eq_false (by omega)]; simp [numC]))
  have hj0 : ∀ b5 : Bool, Ev (fun k => wicketref11_Check.j0 k b5 c.i c.s c.gr c.pg c.u c.sc) (numC (withinL c.i.data.toList 1 64 33 && (withinL c.s.data.toList 0 256 32 && (decide (1 ≤ c.gr ∧ c.gr ≤ 3) && (sixR c && (urlR c && b5)))))) := by
    intro b5
    refine Ev.step (f := fun k => if c.pg = true then (if c.gr ≥ 2 then wicketref11_Check.j1 k b5 (c.s.toList != []) c.i c.s c.gr c.pg c.u c.sc else wicketref11_Check.j1 k b5 false c.i c.s c.gr c.pg c.u c.sc) else wicketref11_Check.j1 k b5 true c.i c.s c.gr c.pg c.u c.sc) (fun k => by simp only [wicketref11_Check.j0]) ?_
    cases hp : c.pg with
    | false =>
      refine Ev.neg (by simp) ?_
      have := hj1 b5 true
      rw [hp] at this
      exact Ev.eq this (by unfold sixR; rw [hp]; simp)
    | true =>
      refine Ev.pos rfl ?_
      by_cases g : c.gr ≥ 2
      · have := hj1 b5 (c.s.toList != [])
        rw [hp] at this
        refine Ev.pos g (Ev.eq this ?_)
        unfold sixR
        rw [if_pos hp, toList_data, decide_eq_true (show 2 ≤ c.gr from g)]
        rw [show (c.s.data.toList != ([] : List UInt8)) = (true && decide (c.s.data.toList ≠ [])) from by cases c.s.data.toList <;> simp [bne]]
      · have := hj1 b5 false
        rw [hp] at this
        refine Ev.neg g (Ev.eq this ?_)
        unfold sixR
        rw [if_pos hp, decide_eq_false (show ¬2 ≤ c.gr from g)]
        simp
  unfold wicketref11_Check.f
  refine Ev.bind (joined_ev c.sc hs.n hs.j) (Ev.bind (refscopes_ev _) ?_)
  rw [bs_data, ← check_same c]
  unfold scopesOk
  by_cases h0 : (scopesL (joinedL c.sc)).2 = 0
  · refine Ev.pos h0 (Ev.bind (texts_ev _ _ ?_) ?_)
    · show ((scopesL (joinedL c.sc)).1.map bs).length ≤ _
      rw [List.length_map]
      have := scopesL_len (joinedL c.sc)
      omega
    · rw [decide_eq_true h0, Bool.true_and]
      exact hj0 _
  · refine Ev.neg h0 ?_
    rw [decide_eq_false h0, Bool.false_and]
    exact hj0 _
end Go.Proofs.YtmimipgmhgalaaaGreatDoor.Pure
end
section
namespace Go.Proofs.YtmimipgmhgalaaaGreatDoor.PAll
open Go.RowKit Go.Proofs.YtmimipgmhgalaaaGreatDoorW.PrintWords
structure S74 where
  f0 : (List S40)
  f1 : Int
  f2 : ByteArray
  f3 : ByteArray
  f4 : (List S68)
def k74 : Kd S74 := Kd.iso (Kd.pair (Kd.slice 40 k40) (Kd.pair (Kd.int .i64) (Kd.pair Kd.string (Kd.pair Kd.string (Kd.slice 68 k68))))) (fun x : S74 => (x.f0, x.f1, x.f2, x.f3, x.f4))
theorem k74_open {w : World} {x : S74} {cs : List Value} (h : k74.K w x cs) : ∃ A0 c0 A4 c4, cs = [.slice A0 x.f0.length c0, .int .i64 x.f1, .string x.f2, .string x.f3, .slice A4 x.f4.length c4] ∧ x.f0.length ≤ c0 ∧ k40.C w A0 x.f0.length x.f0 ∧ x.f4.length ≤ c4 ∧ k68.C w A4 x.f4.length x.f4 := by
  obtain ⟨_, _, rfl, ⟨A0, c0, rfl, l0, g0⟩, ⟨_, _, rfl, rfl, ⟨_, _, rfl, rfl, ⟨_, _, rfl, rfl, ⟨A4, c4, rfl, l4, g4⟩⟩⟩⟩⟩ := h
  exact ⟨A0, c0, A4, c4, rfl, l0, g0, l4, g4⟩
end Go.Proofs.YtmimipgmhgalaaaGreatDoor.PAll
end
section
namespace Go.Proofs.YtmimipgmhgalaaaGreatDoor.Pure
open Go.RowKit Go.Proofs.YtmimipgmhgalaaaGreatDoorW.PrintWords Go.Proofs.YtmimipgmhgalaaaGreatDoor.Plain Go.Proofs.YtmimipgmhgalaaaGreatDoor.Spec Go.Proofs.YtmimipgmhgalaaaGreatDoor.PAll Go.Proofs.YtmimipgmhgalaaaGreatDoor.Sha
set_option linter.unusedVariables false
set_option linter.unusedSimpArgs false
theorem tabs_welcome {W : World} (h : laidMet Tryz.prog Rows.clientWelcomeUptoRow.laid W) : FoldT W := foldT_of_laid h (by simp [Rows.clientWelcomeUptoRow]) (by simp [Rows.clientWelcomeUptoRow])
theorem empty_list : (⟨#[]⟩ : ByteArray).toList = [] := by rw [ByteArray.toList_eq]
theorem empty_of {s : ByteArray} (h : s.toList = []) : s = ⟨#[]⟩ := toList_inj (by rw [h, empty_list])
theorem id_secret : aId.toList ≠ aSecret.toList := fun h => absurd (congrArg ByteArray.size (toList_inj h)) (by decide)
theorem one_nil (n : ByteArray) : oneV n [] = (⟨#[]⟩, false, 0) := by
  unfold oneV foldO
  rw [if_neg (by decide), empty_list]
  rfl
theorem one_id (v : ByteArray) : oneV aId [⟨aId, v⟩] = (v, v.toList != [], 0) := by
  simp only [oneV, foldO]
  rw [if_pos trivial, if_neg (by decide)]
theorem one_no (v : ByteArray) : oneV aSecret [⟨aId, v⟩] = (⟨#[]⟩, false, 0) := by
  simp only [oneV, foldO]
  rw [if_neg id_secret, if_neg (by decide), empty_list]
  rfl
theorem two_id (v u : ByteArray) : oneV aId [⟨aId, v⟩, ⟨aSecret, u⟩] = (v, v.toList != [], 0) := by
  simp only [oneV, foldO]
  rw [if_pos trivial, if_neg (fun h => id_secret h.symm), if_neg (by decide)]
theorem two_secret (v u : ByteArray) : oneV aSecret [⟨aId, v⟩, ⟨aSecret, u⟩] = (u, u.toList != [], 0) := by
  simp only [oneV, foldO]
  rw [if_neg id_secret, if_pos trivial, if_neg (by decide)]
theorem owt_id (v u : ByteArray) : oneV aId [⟨aSecret, u⟩, ⟨aId, v⟩] = (v, v.toList != [], 0) := by
  simp only [oneV, foldO]
  rw [if_neg (fun h => id_secret h.symm), if_pos trivial, if_neg (by decide)]
theorem owt_secret (v u : ByteArray) : oneV aSecret [⟨aSecret, u⟩, ⟨aId, v⟩] = (u, u.toList != [], 0) := by
  simp only [oneV, foldO]
  rw [if_pos trivial, if_neg id_secret, if_neg (by decide)]
theorem foundC_has (x : CC) : ∀ l : List CC, x ∈ l → (foundC x.f0 l).2 = true
  | [], h => by cases h
  | y :: r, h => by
    unfold foundC
    by_cases e : y.f0.toList = x.f0.toList
    · rw [if_pos e]
    · rw [if_neg e]
      rcases List.mem_cons.1 h with h | h
      · exact absurd (by rw [h]) e
      · exact foundC_has x r h
theorem seen_at (l : List CC) (x : CC) (hf : foundC x.f0 l = (x, true)) (p : Int) (u : ByteArray) : seenL l p x.f0 u = shownC x p u := by
  unfold seenL
  rw [hf]
  exact if_pos rfl
theorem auth_word (l : List CC) (x : CC) (hf : foundC x.f0 l = (x, true)) (h u : ByteArray) (hh : h.toList ≠ []) : authL l h [] (x.f0, u, 0) = shownC x 1 u := by
  unfold authL
  rw [one_nil, one_nil, if_pos ⟨rfl, rfl⟩, if_neg hh, if_pos rfl, if_neg (by decide), if_neg (fun h => by cases h.1), seen_at l x hf]
theorem auth_bad (l : List CC) (x : CC) (hf : foundC x.f0 l = (x, true)) (h u : ByteArray) (hh : h.toList ≠ []) : authL l h [⟨aId, x.f0⟩] (x.f0, u, 0) = shownC x 1 u := by
  unfold authL
  rw [one_id, one_no, if_pos ⟨rfl, rfl⟩, if_neg hh, if_pos rfl, if_neg (by decide), if_neg (fun h => h.2 rfl), seen_at l x hf]
theorem auth_form (l : List CC) (x : CC) (hf : foundC x.f0 l = (x, true)) (hx : x.f0.toList ≠ []) (u : ByteArray) (B : ByteArray × ByteArray × Int) : authL l ⟨#[]⟩ [⟨aId, x.f0⟩, ⟨aSecret, u⟩] B = shownC x 2 u := by
  unfold authL
  rw [two_id, two_secret, if_pos ⟨rfl, rfl⟩, if_pos empty_list, if_pos (bne_iff_ne.2 hx), seen_at l x hf]
theorem auth_turn (l : List CC) (x : CC) (hf : foundC x.f0 l = (x, true)) (hx : x.f0.toList ≠ []) (u : ByteArray) (B : ByteArray × ByteArray × Int) : authL l ⟨#[]⟩ [⟨aSecret, u⟩, ⟨aId, x.f0⟩] B = shownC x 2 u := by
  unfold authL
  rw [owt_id, owt_secret, if_pos ⟨rfl, rfl⟩, if_pos empty_list, if_pos (bne_iff_ne.2 hx), seen_at l x hf]
theorem auth_head (l : List CC) (hl : SmallC l) (hz : ∀ x ∈ l, x.f1.size ≤ 140737488351232) (h : ByteArray) (ps : List S68) (hn : ps.length ≤ 4000000000000) (hps : ∀ p ∈ ps, p.f1.size ≤ 140737488351232) (w : World) (hT : FoldT w)
    (B : ByteArray × ByteArray × Int) (hB : h.size ≤ 1024 → Ev (fun k => client_Basic.f k h) B ∧ asciiS (h.extract 0 5) = true ∧ B.2.1.size ≤ 65536) :
    ∃ X n e, AuthAt w l h ps X n e ∧ (h.size ≤ 1024 → authL l h ps B = (X, n, e)) := by
  by_cases hs : h.size ≤ 1024
  · obtain ⟨b1, b2, b3⟩ := hB hs
    exact ⟨_, _, _, auth_at l hl hz h ps hn hps w hT B (fun _ => b1) (fun _ _ hf => by rw [b2] at hf; cases hf) b3, fun _ => rfl⟩
  · obtain ⟨B', hB1, hB2, hB3, hB4, hB5⟩ := basic_all h
    exact ⟨_, _, _, auth_at l hl hz h ps hn hps w hT B' hB1 hB3 hB5, fun h => absurd h hs⟩
theorem auth_none (l : List CC) (hl : SmallC l) (hz : ∀ x ∈ l, x.f1.size ≤ 140737488351232) (ps : List S68) (hn : ps.length ≤ 4000000000000) (hps : ∀ p ∈ ps, p.f1.size ≤ 140737488351232) (w : World) (hT : FoldT w)
    (R : CC × Int × Int) (hR : ∀ B, authL l ⟨#[]⟩ ps B = R) : AuthAt w l ⟨#[]⟩ ps R.1 R.2.1 R.2.2 := by
  obtain ⟨B', hB1, hB2, hB3, hB4, hB5⟩ := basic_all ⟨#[]⟩
  rw [← hR B']
  exact auth_at l hl hz ⟨#[]⟩ ps hn hps w hT B' hB1 hB3 hB5
theorem same_any (x y : CC) (hx : x.f5.length ≤ 4000000000000) (hy : y.f5.length ≤ 4000000000000) : ∃ s : Bool, Ev (fun k => wicketlaw11_same.f k x.f0 x.f1 x.f2 x.f3 x.f4 x.f5 y.f0 y.f1 y.f2 y.f3 y.f4 y.f5) s ∧ (s = true → y = x) := by
  by_cases hxy : x = y
  · subst hxy
    exact ⟨true, same_ev _ _ _ _ _ _ hx, fun _ => rfl⟩
  have hj : Ev (fun k => wicketlaw11_same.j0 k true x.f0 x.f1 x.f2 x.f3 x.f4 x.f5 y.f0 y.f1 y.f2 y.f3 y.f4 y.f5) false := Ev.step (f := fun _ => some false) (fun k => by simp only [wicketlaw11_same.j0, if_true]) (Ev.now _)
  refine ⟨false, ?_, fun h => by cases h⟩
  obtain ⟨x0, x1, x2, x3, x4, x5⟩ := x
  obtain ⟨y0, y1, y2, y3, y4, y5⟩ := y
  dsimp only at hx hy hj ⊢
  unfold wicketlaw11_same.f
  by_cases e0 : x0.toList = y0.toList
  · refine Ev.pos e0 ?_
    obtain rfl := toList_inj e0
    by_cases e1 : x1.toList = y1.toList
    · refine Ev.pos e1 ?_
      obtain rfl := toList_inj e1
      by_cases e2 : x2 = y2
      · refine Ev.pos e2 ?_
        subst e2
        by_cases e3 : x3 = y3
        · subst e3
          refine Ev.neg (by simp) ?_
          by_cases e4 : x4.toList = y4.toList
          · refine Ev.pos e4 ?_
            obtain rfl := toList_inj e4
            have e5 : x5 ≠ y5 := fun h => hxy (by rw [h])
            by_cases e6 : x5.length = y5.length
            · rw [show ((x5.length : Int) != (y5.length : Int)) = false by simp [e6]]
              refine Ev.step (f := fun k => wicketlaw11_same.l0 k ((0 : Nat) : Int) x0 x1 x2 x3 x4 x5 x0 x1 x2 x3 x4 y5) (fun k => by simp only [wicketlaw11_same.j0, Bool.false_eq_true, if_false]; rfl) ?_
              have hlp : ∀ (m j : Nat), j + m = x5.length → x5.drop j ≠ y5.drop j → Ev (fun k => wicketlaw11_same.l0 k (j : Int) x0 x1 x2 x3 x4 x5 x0 x1 x2 x3 x4 y5) false := by
                intro m
                induction m with
                | zero =>
                  intro j hj hd
                  exact absurd (by rw [List.drop_eq_nil_of_le (by omega), List.drop_eq_nil_of_le (by omega)]) hd
                | succ m ih =>
                  intro j hj hd
                  have h1 : j < x5.length := by omega
                  have h2 : j < y5.length := by omega
                  have r1 : rdOf ByteArray.empty x5 (j : Int) = x5[j] := by
                    unfold rdOf; rw [Int.toNat_natCast, List.getD_eq_getElem?_getD, List.getElem?_eq_getElem h1]; rfl
                  have r2 : rdOf ByteArray.empty y5 (j : Int) = y5[j] := by
                    unfold rdOf; rw [Int.toNat_natCast, List.getD_eq_getElem?_getD, List.getElem?_eq_getElem h2]; rfl
                  by_cases e : x5[j].toList = y5[j].toList
                  · refine Ev.step (fun k => ?_) (ih (j + 1) (by omega) (fun h => hd ?_))
                    · simp only [wicketlaw11_same.l0]
                      rw [if_pos (by omega), if_pos (by omega), if_pos (by omega), r1, r2, if_pos e, w64 (by omega) (by omega)]
                      rfl
                    · rw [List.drop_eq_getElem_cons h1, List.drop_eq_getElem_cons h2, h, toList_inj e]
                  · refine Ev.step (f := fun _ => some false) (fun k => ?_) (Ev.now _)
                    simp only [wicketlaw11_same.l0]
                    rw [if_pos (by omega), if_pos (by omega), if_pos (by omega), r1, r2, if_neg e]
              exact hlp x5.length 0 (by omega) (by rw [List.drop_zero, List.drop_zero]; exact e5)
            · rw [show ((x5.length : Int) != (y5.length : Int)) = true by rw [bne_iff_ne]; omega]
              exact hj
          · exact Ev.neg e4 hj
        · exact Ev.pos (by rw [bne_iff_ne]; exact e3) hj
      · exact Ev.neg e2 hj
    · exact Ev.neg e1 hj
  · exact Ev.neg e0 hj
theorem check_id {c : ClT} (h : numC (checkL c) = 0) : c.i.toList ≠ [] := by
  intro hn
  have h1 : checkL c = true := by
    unfold numC at h
    cases hc : checkL c with
    | true => rfl
    | false => rw [hc] at h; cases h
  unfold checkL at h1
  rw [ByteArray.toList_eq] at hn
  rw [hn] at h1
  simp [withinL] at h1
def toW (x : CC) : ClT := ⟨x.f0, x.f1, x.f2, x.f3, x.f4, x.f5⟩
theorem sumW (l : List ByteArray) : (joinedL l).length ≤ (l.map fun y => (y.size + 1)).sum := by
  have h2 : ∀ r : List ByteArray, (Lib.joinTail [32] (r.map (·.data.toList))).length ≤ (r.map fun y => (y.size + 1)).sum := by
    intro r
    induction r with
    | nil => simp [Lib.joinTail]
    | cons x r ih =>
      have e : (Lib.joinTail [32] ((x :: r).map (·.data.toList))).length = 1 + x.data.toList.length + (Lib.joinTail [32] (r.map (·.data.toList))).length := by
        unfold Lib.joinTail
        rw [List.map_cons, List.map_cons, List.flatten_cons, List.length_append, List.length_append]
        rfl
      have hx : x.data.toList.length = x.size := data_len _
      rw [e]
      simp only [List.map_cons, List.sum_cons]
      omega
  cases l with
  | nil => simp [joinedL, Lib.join_nil]
  | cons x r =>
    have h3 := h2 r
    have hx : x.data.toList.length = x.size := data_len _
    unfold joinedL
    rw [List.map_cons, Lib.join_cons, List.length_append]
    simp only [List.map_cons, List.sum_cons]
    omega
theorem small_of (l : List CC) (n : Nat) (h : (l.map weightC).sum ≤ n) (hn : n ≤ 1048576) : ∀ x ∈ l, Small (toW x) := by
  intro x hx
  have h2 : weightC x ≤ n := Nat.le_trans ((weight_mem l).2 x hx) h
  have h3 := sumW x.f5
  have h4 := sum_names x.f5
  unfold weightC at h2
  exact ⟨by show x.f0.size ≤ _; omega, by show x.f1.size ≤ _; omega, by show x.f4.size ≤ _; omega, by show x.f5.length ≤ _; omega, by show (joinedL x.f5).length ≤ _; omega⟩
theorem wf_i64 {t : Int} (h : (Lit.int .i64 t).wf = true) : -9223372036854775808 ≤ t ∧ t ≤ 9223372036854775807 := by
  simp [Lit.wf, IntKind.min, IntKind.max, IntKind.signed, IntKind.bits] at h
  exact h
theorem row_welcome (l : List CC) (tn : Int) (ts a : ByteArray) (ps : List S68)
    (ok : (l.length * 88 ≤ 140737488351232 ∧ ∀ y, y ∈ l → (y.f0.size ≤ 140737488351232) ∧ (y.f1.size ≤ 140737488351232) ∧ ((Lit.int .i64 y.f2).wf = true) ∧ (True) ∧ (y.f4.size ≤ 140737488351232) ∧ (y.f5.length * 16 ≤ 140737488351232 ∧ ∀ z, z ∈ y.f5 → z.size ≤ 140737488351232)) ∧ ((Lit.int .i64 tn).wf = true) ∧ (ts.size ≤ 140737488351232) ∧ (a.size ≤ 140737488351232) ∧ (ps.length * 32 ≤ 140737488351232 ∧ ∀ y, y ∈ ps → (y.f0.size ≤ 140737488351232) ∧ (y.f1.size ≤ 140737488351232)))
    (hb : (((l.map weightC).sum + 1) + 1 + (ts.size + 1) + (a.size + 1) + ((ps.map fun y => ((y.f0.size + 1) + (y.f1.size + 1) + 1)).sum + 1) + 1) ≤ 1048576)
    (W : World) (A0 : Option Addr) (c0 : Nat) (A4 : Option Addr) (c4 : Nat) (hr0 : Kd.C k40 W A0 l.length l) (hc0 : l.length ≤ c0) (hr2 : Kd.C k68 W A4 ps.length ps) (hc2 : ps.length ≤ c4) (hT : FoldT W) :
    Calls Tryz.prog 13 #[.agg #[.slice A0 l.length c0, .int .i64 tn, .string ts, .string a, .slice A4 ps.length c4]] W fun e w' => e = .returned (.bool true) ∧ Below W.heap.size W w' := by
  obtain ⟨ok, okn, _, ok1, ok2⟩ := ok
  have hl := smallC_of l _ (Nat.le_refl _) (by omega)
  have htn := wf_i64 okn
  by_cases hc : 0 ≤ tn ∧ 0 < l.length
  · obtain ⟨T, rfl⟩ : ∃ T : Nat, tn = T := ⟨tn.toNat, by omega⟩
    have hq : T % l.length < l.length := Nat.mod_lt _ hc.2
    obtain ⟨x, hx⟩ : ∃ x, l[T % l.length] = x := ⟨_, rfl⟩
    have hxm : x ∈ l := by rw [← hx]; exact List.getElem_mem hq
    have hz : ∀ x ∈ l, x.f1.size ≤ 140737488351232 := fun x hx => (ok.2 x hx).2.1
    have hwt := (weight_mem l).2 x hxm
    have hwx : weightC x ≤ 1048576 := Nat.le_trans hwt (by omega)
    have hsx : x.f0.size ≤ 1048576 ∧ x.f1.size ≤ 1048576 := by unfold weightC at hwx; omega
    have hln (s : ByteArray) : (escL s.data.toList).length ≤ 3 * s.size := (pair_len ⟨s, s⟩).1
    have hsm := small_of l _ (Nat.le_refl _) (by omega) x hxm
    have hfd := foundC_has x l hxm
    obtain ⟨y, hy⟩ : ∃ y, (foundC x.f0 l).1 = y := ⟨_, rfl⟩
    have hf : foundC x.f0 l = (y, true) := Prod.ext hy hfd
    have hyl : y.f5.length ≤ 4000000000000 := by rw [← hy]; exact foundC_small _ l hl.2
    obtain ⟨s, hs1, hs2⟩ := same_any x y (hl.2 x hxm) hyl
    have hfi := rfind_ev l hl x.f0
    rw [hf] at hfi
    dsimp only at hfi
    obtain ⟨E0, hE0⟩ : ∃ E, bs (escL x.f0.data.toList) = E := ⟨_, rfl⟩
    obtain ⟨E1, hE1⟩ : ∃ E, bs (escL x.f1.data.toList) = E := ⟨_, rfl⟩
    obtain ⟨E2, hE2⟩ : ∃ E, bs (escL ts.data.toList) = E := ⟨_, rfl⟩
    have z0 : E0.size ≤ 3145728 := by rw [← hE0, bs_size]; have := hln x.f0; omega
    have z1 : E1.size ≤ 3145728 := by rw [← hE1, bs_size]; have := hln x.f1; omega
    have z2 : E2.size ≤ 3145728 := by rw [← hE2, bs_size]; have := hln ts; omega
    have hE : Ev (fun k => (wicketlaw11_copied.f k l).bind fun c => (wicketlaw11_all.f k l).bind fun m => (wicketref11_Find.f k (l.map toR) x.f0).bind fun y' => (wicketref11_Check.f k x.f0 x.f1 x.f2 x.f3 x.f4 x.f5).bind fun e => (wicketlaw11_same.f k x.f0 x.f1 x.f2 x.f3 x.f4 x.f5 y.f0 y.f1 y.f2 y.f3 y.f4 y.f5).bind fun s => (wicketref03_Escape.f k x.f0).bind fun g0 => (wicketref03_Escape.f k x.f1).bind fun g1 => (wicketref03_Escape.f k ts).bind fun g2 => some (c, m, y', e, s, g0, g1, g2)) (l, l.map toR, (y.f0, y.f1, y.f2, y.f3, y.f4, y.f5, true), numC (checkL (toW x)), s, E0, E1, E2) := by
      refine Ev.bind (copied_ev l hl) (Ev.bind (all_ev l hl) (Ev.bind hfi (Ev.bind (refcheck_ev (toW x) hsm) (Ev.bind hs1 (Ev.bind ?_ (Ev.bind ?_ (Ev.bind ?_ (Ev.now _))))))))
      · rw [← hE0]; exact refesc_ev x.f0 hsx.1
      · rw [← hE1]; exact refesc_ev x.f1 hsx.2
      · rw [← hE2]; exact refesc_ev ts (by omega)
    obtain ⟨k, hk⟩ := hE.rounds
    obtain ⟨c', g1, hk⟩ := Option.bind_eq_some_iff.1 hk
    obtain ⟨m', g2, hk⟩ := Option.bind_eq_some_iff.1 hk
    obtain ⟨y', g3, hk⟩ := Option.bind_eq_some_iff.1 hk
    obtain ⟨e', g4, hk⟩ := Option.bind_eq_some_iff.1 hk
    obtain ⟨s', g5, hk⟩ := Option.bind_eq_some_iff.1 hk
    obtain ⟨u0, g6, hk⟩ := Option.bind_eq_some_iff.1 hk
    obtain ⟨u1, g7, hk⟩ := Option.bind_eq_some_iff.1 hk
    obtain ⟨u2, g8, hk⟩ := Option.bind_eq_some_iff.1 hk
    simp only [Option.some.injEq, Prod.mk.injEq] at hk
    obtain ⟨rfl, rfl, rfl, rfl, rfl, rfl, rfl, rfl⟩ := hk
    refine welcome_walk k A0 c0 c' T ts a A4 c4 ps W hr0 hc0 htn g1 (fun T' hT' _ x' hx' => ?_)
    obtain rfl : T = T' := Int.ofNat.inj hT'
    obtain rfl : x = x' := by
      rw [List.getElem?_eq_getElem hq, hx] at hx'
      exact Option.some.inj hx'
    refine ⟨ours_q _ _ _ _ _ _ (hl.2 x hxm), _, y, _, g2, g3, g4, ?_⟩
    by_cases hk0 : numC (checkL (toW x)) = 0
    · refine .inr ⟨hk0, s', g5, ?_⟩
      cases s' with
      | false => exact .inl rfl
      | true =>
        have hyx := hs2 rfl
        refine .inr ⟨rfl, hyx, ?_⟩
        rw [hyx] at hf
        have hid : x.f0.toList ≠ [] := check_id hk0
        clear g1 g2 g3 g4 g5 hE hfi hs1 hs2 hy
        have hne : ∀ (p : UInt8) (q : List UInt8) (r : ByteArray), (bs (p :: q) ++ r).toList ≠ [] := fun p q r h => by
          rw [ByteArray.toList_eq, ByteArray.data_append, Array.toList_append, bs_data] at h
          cases h
        have hB1 : (wordB u0 u1).size ≤ 1024 → Ev (fun k => client_Basic.f k (wordB u0 u1)) (x.f0, x.f1, 0) ∧ asciiS ((wordB u0 u1).extract 0 5) = true ∧ x.f1.size ≤ 65536 := fun hs => by
          have := basic_head [66, 97, 115, 105, 99] [] rfl (fun c h => by cases h) (by decide) (by decide) x.f0 x.f1 (wordB u0 u1) (by rw [hE0, hE1]; rfl) hs
          exact this
        have hB3 : (badB u0 u2).size ≤ 1024 → Ev (fun k => client_Basic.f k (badB u0 u2)) (x.f0, ts, 0) ∧ asciiS ((badB u0 u2).extract 0 5) = true ∧ ts.size ≤ 65536 := fun hs => by
          have := basic_head [98, 97, 115, 105, 99] [32] rfl (fun c h => List.mem_singleton.1 h) (by decide) (by decide) x.f0 ts (badB u0 u2) (by rw [hE0, hE2]; rfl) hs
          exact this
        have hsz := (ok.2 x hxm)
        obtain ⟨X1, n1, e1, ha1, hv1⟩ := auth_head c' hl hz (wordB u0 u1) [] (by decide) (fun p hp => by cases hp) W hT (x.f0, x.f1, 0) hB1
        obtain ⟨X3, n3, e3, ha3, hv3⟩ := auth_head c' hl hz (badB u0 u2) [⟨gId, x.f0⟩] (by simp) (fun p hp => by rw [List.mem_singleton.1 hp]; exact hsz.1) W hT (x.f0, ts, 0) hB3
        have ha2 := auth_none c' hl hz [⟨gId, x.f0⟩, ⟨gSecret, x.f1⟩] (by simp) (fun p hp => by
          rcases List.mem_cons.1 hp with h | h
          · rw [h]; exact hsz.1
          · rw [List.mem_singleton.1 h]; exact hsz.2.1) W hT _ (auth_form c' x hf hid x.f1)
        have ha4 := auth_none c' hl hz [⟨gSecret, ts⟩, ⟨gId, x.f0⟩] (by simp) (fun p hp => by
          rcases List.mem_cons.1 hp with h | h
          · rw [h]; show ts.size ≤ _; omega
          · rw [List.mem_singleton.1 h]; exact hsz.1) W hT _ (auth_turn c' x hf hid ts)
        have hne1 : (wordB u0 u1).toList ≠ [] := hne 66 [97, 115, 105, 99, 32] _
        have hne3 : (badB u0 u2).toList ≠ [] := hne 98 [97, 115, 105, 99, 32, 32] _
        rw [auth_word c' x hf _ x.f1 hne1] at hv1
        rw [show ([⟨gId, x.f0⟩] : List S68) = [⟨aId, x.f0⟩] from rfl, auth_bad c' x hf _ ts hne3] at hv3
        obtain ⟨⟨X2, n2, e2⟩, hv2⟩ : ∃ R, shownC x 2 x.f1 = R := ⟨_, rfl⟩
        obtain ⟨⟨X4, n4, e4⟩, hv4⟩ : ∃ R, shownC x 2 ts = R := ⟨_, rfl⟩
        rw [hv2] at ha2
        rw [hv4] at ha4
        refine ⟨u0, u1, u2, X1, n1, e1, X2, n2, e2, X3, n3, e3, X4, n4, e4, g6, g7, g8, z0, z1, z2, ha1, ha2, ha3, ha4, ?_⟩
        by_cases hw1 : 1024 < (wordB u0 u1).size
        · exact .inl (.inl hw1)
        by_cases hw3 : 1024 < (badB u0 u2).size
        · exact .inl (.inr hw3)
        refine .inr ⟨by omega, by omega, ?_⟩
        have hv1 := hv1 (by omega)
        have hv3 := hv3 (by omega)
        clear ha1 ha2 ha3 ha4 hB1 hB3 g6 g7 g8
        unfold shownC at hv1 hv2 hv3 hv4
        by_cases h1 : x.f1.toList = []
        · left
          have h1' := empty_of h1
          rw [if_pos ⟨rfl, h1⟩] at hv1 hv3
          rw [if_neg (fun h => absurd h.1 (by decide)), if_pos rfl, if_pos h1] at hv2
          rw [if_neg (fun h => absurd h.1 (by decide))] at hv4
          unfold zX at hv1 hv3
          simp only [Prod.mk.injEq] at hv1 hv2 hv3
          obtain ⟨rfl, rfl, rfl⟩ := hv1
          obtain ⟨rfl, rfl, rfl⟩ := hv2
          obtain ⟨rfl, rfl, rfl⟩ := hv3
          refine ⟨h1', rfl, rfl, rfl, rfl, rfl, ?_⟩
          by_cases h2 : ts.toList = []
          · rw [if_pos (by rw [h1, h2]), if_pos h1] at hv4
            simp only [Prod.mk.injEq] at hv4
            exact .inl ⟨empty_of h2, hv4.2.2.symm⟩
          · rw [if_neg (by rw [h1]; exact fun h => h2 h.symm)] at hv4
            unfold zX at hv4
            simp only [Prod.mk.injEq] at hv4
            exact .inr ⟨h2, hv4.2.2.symm⟩
        · right
          rw [if_neg (fun h => h1 h.2), if_pos rfl, if_neg h1] at hv1
          rw [if_neg (fun h => h1 h.2), if_pos rfl, if_neg h1] at hv2
          rw [if_neg (fun h => h1 h.2)] at hv3 hv4
          simp only [Prod.mk.injEq] at hv1 hv2
          obtain ⟨rfl, rfl, rfl⟩ := hv1
          obtain ⟨rfl, rfl, rfl⟩ := hv2
          refine ⟨h1, rfl, rfl, rfl, rfl, rfl, rfl, ?_⟩
          by_cases h2 : x.f1.toList = ts.toList
          · rw [if_pos h2, if_neg h1] at hv3 hv4
            simp only [Prod.mk.injEq] at hv3 hv4
            exact .inl ⟨(toList_inj h2).symm, hv3.2.2.symm, hv4.2.2.symm⟩
          · rw [if_neg h2] at hv3 hv4
            unfold zX at hv3 hv4
            simp only [Prod.mk.injEq] at hv3 hv4
            exact .inr ⟨fun h => h2 h.symm, hv3.2.2.symm, hv4.2.2.symm⟩
    · exact .inl hk0
  · obtain ⟨k, hk⟩ := (copied_ev l hl).rounds
    exact welcome_walk k A0 c0 l tn ts a A4 c4 ps W hr0 hc0 htn hk (fun T h1 h2 => absurd ⟨by omega, h2⟩ hc)
end Go.Proofs.YtmimipgmhgalaaaGreatDoor.Pure
end
