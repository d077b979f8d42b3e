/-
  text, (*Hash).Size, live: what the calls do, walked.
  Arrays of bytes compared; lists of integers that are bytes; lent and kept.
  The tables as the row lists them: what of them the walks want.
  The two tables of the program, as the rows list them that do not reach the reference's.
  DigestSums: every sum is the document's; what is handed in stays.
  DigestSums over integers that are bytes, as the row hands them on.
  Rows of the call's own beside each other.
-/
import Derived.Test.YtfedlgcpgfofjaaDoorDBase2
import Derived.Test.YtfedlgcpgfofjaaDoorPAllx1
import Derived.Test.YtfedlgcpgfofjaaDoorPAllx2
import Derived.Lib.SlBytesConst
import Derived.Test.YtfedlgcpgfofjaaDoorPlain
import Derived.ChangeKeysEq
import Derived.Test.YtfedlgcpgfofjaaDoorRows
import Derived.Lib.LaidTab
import Derived.Lib.LaidU8
namespace Go.Proofs.YtfedlgcpgfofjaaDoor.Sha
open Go.RowKit Go.Proofs.YtfedlgcpgfofjaaDoorW.PrintWords Go.Proofs.YtfedlgcpgfofjaaDoor.PAll
set_option linter.unusedVariables false
theorem C8.lit (w : World) (p : List Nat) (n m : Nat) (fr : Nat × Nat) (hn : w.heap.size = n) (hm : m = p.length) (hl : p.length ≤ 1000000) : C8 (w.alloc (.cells (c8 p) 5 fr)) (some ⟨n, 0, none⟩) m p := by
  subst hn; subst hm
  refine C8.of_Bs (fun j hj => ?_) (by omega)
  rw [Nat.zero_add, cell_of_row _ w.heap.size j (c8 p) 5 fr (heap_alloc_new w _)]
  exact c8_at p j hj
/-- The digits of a sum. -/
def Digs (D : List Nat) (s : ByteArray) : Prop := D.length = 32 ∧ ∃ k, wicketref02_Hex.f k (toI D) = some s
set_option maxRecDepth 100000 in
set_option maxHeartbeats 400000 in
theorem text_any (D : List Nat) (s : ByteArray) (w : World) (h : Digs D s) :
    Calls Tryd.prog 40 #[.agg (D.map v8).toArray] w fun e w' => e = .returned (.string s) ∧ Below w.heap.size w w' := by
  obtain ⟨hl, k, hk⟩ := h
  have hB : Blk (w.alloc (.cells (c8 D) 24)) w.heap.size 24 (c8 D) := Blk.new w 24 (c8 D)
  have hC : C8 (w.alloc (.cells (c8 D) 24)) (some ⟨w.heap.size, 0, none⟩) D.length D := C8.of_Bs (fun j hj => by rw [Nat.zero_add]; exact hB.w8 j hj) (by omega)
  have hcall : Calls Tryd.prog 27 #[.slice (some ⟨w.heap.size, 0, none⟩) 32 32] (w.alloc (.cells (D.map v8).toArray 24)) fun e w' => e = .returned (.string s) ∧ Below (w.heap.size + 1) (w.alloc (.cells (D.map v8).toArray 24)) w' := by
    have h := wicketref02_Hex.calls k (some ⟨w.heap.size, 0, none⟩) 32 (toI D) s (w.alloc (.cells (c8 D) 24)) (by rw [toI_len]; exact hC) (by rw [toI_len]; omega) hk
    rw [toI_len, hl, show (w.alloc (.cells (c8 D) 24)).heap.size = w.heap.size + 1 by simp] at h
    exact h
  have HH := Lib.hid hcall
  clear hB hC hcall hk
  have HL := Lib.hid hl
  clear hl
  go_enter Tryd.func40, Tryd.ntmps40
  go_wp2_with (go_at_call 27; (with_reducible refine HH.out.mono ?_); rintro e w1 ⟨rfl, hb1⟩)
  go_ret
  exact ⟨rfl, ((Below.refl _ _).alloc (Nat.le_refl _) _).trans (hb1.mono (by omega))⟩
set_option maxRecDepth 100000 in
set_option maxHeartbeats 400000 in
theorem size_any (g past : Nat) (r all : List Nat) (w : World) (hr : r.length = 8) (hmax : past + all.length ≤ 1152921504606846976 + 150000000000000) (hH : HashAt w g r past all) :
    Calls Tryd.prog 20 #[.pointer (some ⟨g, 0, none⟩)] w fun e w' => e = .returned (.int .i64 ((past + all.length : Nat) : Int)) ∧ w = w' := by
  obtain ⟨rest, hB, hrl, _, _⟩ := hH
  obtain ⟨tk, htk⟩ : ∃ tk, tk = past + all.length := ⟨_, rfl⟩
  have c72 : w.cell? ⟨g, 72, none⟩ = some (.int .u64 (tk : Int)) := by rw [htk]; exact (hB.cell 72).trans (hcells_72 _ rest _ (regOf_len hr all) hrl)
  rw [← htk] at hmax
  rw [← htk]
  have i0 : (0 : Int) ≤ (tk : Int) := by omega
  have i1 : (tk : Int) ≤ 1153071504606846976 := by omega
  clear hB htk
  go_enter Tryd.func20, Tryd.ntmps20
  go_wp2
  go_ret
  exact ⟨rfl, rfl⟩
theorem abc_digs : Digs (sumOf [97, 98, 99]) ⟨#[98, 97, 55, 56, 49, 54, 98, 102, 56, 102, 48, 49, 99, 102, 101, 97, 52, 49, 52, 49, 52, 48, 100, 101, 53, 100, 97, 101, 50, 50, 50, 51, 98, 48, 48, 51, 54, 49, 97, 51, 57, 54, 49, 55, 55, 97, 57, 99, 98, 52, 49, 48, 102, 102, 54, 49, 102, 50, 48, 48, 49, 53, 97, 100]⟩ := ⟨sumOf_len _, 40, by kernel_rfl⟩
theorem live_b64 : digest_FromBase64.f 80 ⟨#[90, 109, 57, 118]⟩ = some ([102, 111, 111], 0, 0) := by kernel_rfl
theorem live_hex : digest_Hex.f 10 [10, 255] = some ⟨#[48, 97, 102, 102]⟩ := by kernel_rfl
theorem live_foo : strOfNums [102, 111, 111] = ⟨#[102, 111, 111]⟩ := by kernel_rfl
theorem all_dec {B : Nat} {l : List Nat} (h : (l.all fun x => decide (x < B)) = true) : All B l := fun x hx => of_decide_eq_true (List.all_eq_true.1 h x hx)
theorem HashAt.alloc {w : World} {g : Nat} {r all : List Nat} {past : Nat} (h : HashAt w g r past all) (o : Obj) : HashAt (w.alloc o) g r past all := h.keep (Below.heap_alloc w o g h.lt)
theorem HashAt.below {w w' : World} {g : Nat} {r all : List Nat} {past : Nat} (h : HashAt w g r past all) (hb : Below w.heap.size w w') : HashAt w' g r past all := h.keep (hb.block g h.lt)
set_option maxRecDepth 100000 in
set_option maxHeartbeats 1000000 in
theorem live_any (w : World) (ht : Tab1 w) (hf : TabF w) (h1 : 1 < w.heap.size) :
    Calls Tryd.prog 15 #[] w fun e w' => e = .returned (.bool true) ∧ Below w.heap.size w w' := by
  obtain ⟨D, hD⟩ : ∃ D, D = sumOf [97, 98, 99] := ⟨_, rfl⟩
  have hdg : Digs D ⟨#[98, 97, 55, 56, 49, 54, 98, 102, 56, 102, 48, 49, 99, 102, 101, 97, 52, 49, 52, 49, 52, 48, 100, 101, 53, 100, 97, 101, 50, 50, 50, 51, 98, 48, 48, 51, 54, 49, 97, 51, 57, 54, 49, 55, 55, 97, 57, 99, 98, 52, 49, 48, 102, 102, 54, 49, 102, 50, 48, 48, 49, 53, 97, 100]⟩ := by rw [hD]; exact abc_digs
  have hs1 : ∀ (W : World) (A : Option Addr), Below w.heap.size w W → C8 W A 3 [97, 98, 99] → Calls Tryd.prog 14 #[.slice A 3 3] W fun e w' => e = .returned (.agg (D.map v8).toArray) ∧ Below W.heap.size W w' := fun W A hb hC => by
    rw [hD]; exact sum_any [97, 98, 99] A 3 W (by decide) (by decide) (all_dec rfl) hC (ht.below hb h1) (hf.below hb (by omega)) (Nat.lt_of_lt_of_le h1 hb.size)
  have hs2 : ∀ (W : World), Below w.heap.size w W → HashAt W w.heap.size first 0 [97, 98, 99] → Calls Tryd.prog 19 #[.pointer (some ⟨w.heap.size, 0, none⟩)] W fun e w' => e = .returned (.agg (D.map v8).toArray) ∧ Below W.heap.size W w' := fun W hb hH => by
    rw [hD]; exact hsum_any w.heap.size 0 first [97, 98, 99] W first_len first_all rfl (by decide) hH (all_dec rfl) (ht.below hb h1) (Nat.lt_of_lt_of_le h1 hb.size)
  have hw : ∀ (W : World) (all p : List Nat) (g n : Nat), Below w.heap.size w W → HashAt W w.heap.size first 0 all → C8 W (some ⟨g, 0, none⟩) n p → w.heap.size < g → all.length + p.length ≤ 1000 → All 256 all → All 256 p →
      Calls Tryd.prog 18 #[.pointer (some ⟨w.heap.size, 0, none⟩), .slice (some ⟨g, 0, none⟩) n n] W fun e w' => e = .returned (.tuple #[]) ∧ HashAt w' w.heap.size first 0 (all ++ p) ∧ W.grownBy w' (some w.heap.size) := fun W all p g n hb hH hC hg hl ha hp => by
    obtain rfl := hC.len
    exact write_c w.heap.size 0 first all p _ p.length p.length W first_len first_all rfl (by omega) hH ha rfl (Nat.le_refl _) hp hC (fun _ b o e h => by injection e with e; injection e with e; omega) (ht.below hb h1) (Nat.lt_of_lt_of_le h1 hb.size) (by omega)
  have hz : ∀ W : World, HashAt W w.heap.size first 0 [97, 98, 99] → Calls Tryd.prog 20 #[.pointer (some ⟨w.heap.size, 0, none⟩)] W fun e w' => e = .returned (.int .i64 3) ∧ W = w' := fun W h => size_any _ 0 first _ W first_len (by decide) h
  have HZ := Lib.hid hz
  clear hz
  have HS1 := Lib.hid hs1; have HS2 := Lib.hid hs2; have HW := Lib.hid hw; have HDG := Lib.hid hdg; have HF := Lib.hid hf
  clear hs1 hs2 hw hD hdg ht hf
  have kc := fun (w : World) (C : Array Value) (n c : Nat) => Lib.run_convert_bytes_const (P := Tryd.prog) w 22 5 C n c Tryd.underlying22 Tryd.underlying5
  go_enter Tryd.func15, Tryd.ntmps15
  go_wp2_with (first
    | (go_at_call 25; (with_reducible refine (new_any _ HF.out).mono ?_); rintro e w1 ⟨rfl, hw1⟩
       have H1 : HashAt w1 w.heap.size first 0 [] := by rw [← hw1]; exact hash_new w
       have hb1 : Below w.heap.size w w1 := by rw [← hw1]; exact (Below.refl w.heap.size w).alloc (Nat.le_refl _) _
       have z1 : w.heap.size < w1.heap.size := by rw [← hw1]; simp
       clear hw1)
    | (go_at_call 18; (refine (HW.out _ [] [97, 98] _ 2 (hb1.alloc hb1.size _) (H1.alloc _) (C8.lit w1 [97, 98] _ 2 _ rfl rfl (by decide)) z1 (by decide) All.nil (all_dec rfl)).mono ?_); rintro e w2 ⟨rfl, H2, G2⟩
       have hb2 : Below w.heap.size w w2 := (hb1.alloc hb1.size _).grown G2 (by have := hb1.size; simp; omega) (fun k hk => by injection hk; omega)
       have z2 : w.heap.size < w2.heap.size := by have := G2.size; simp at this; omega
       clear H1 G2)
    | (go_at_call 18; (refine (HW.out _ _ [99] _ 1 (hb2.alloc hb2.size _) (H2.alloc _) (C8.lit w2 [99] _ 1 _ rfl rfl (by decide)) z2 (by decide) (all_dec rfl) (all_dec rfl)).mono ?_); rintro e w3 ⟨rfl, H3, G3⟩
       have hb3 : Below w.heap.size w w3 := (hb2.alloc hb2.size _).grown G3 (by have := hb2.size; simp; omega) (fun k hk => by injection hk; omega)
       replace H3 : HashAt w3 w.heap.size first 0 [97, 98, 99] := H3
       clear H2 G3)
    | (go_at_call 28; (with_reducible refine (digest_FromBase64.calls 80 _ [102, 111, 111] 0 0 _ live_b64).mono ?_); rintro e w4 ⟨v4, rfl, HR4, hb4⟩
       have H4 := H3.below hb4
       have hb4' := hb3.trans (hb4.mono hb3.size)
       obtain ⟨A4, c4, hv4, hl4, hC4⟩ := (Own.of_R (p := [102, 111, 111]) HR4).arg
       subst hv4
       clear H3 HR4)
    | (go_at_call 14; (refine (HS1.out _ _ (hb4'.alloc hb4'.size _) (C8.lit w4 [97, 98, 99] _ 3 _ rfl rfl (by decide))).mono ?_); rintro e w5 ⟨rfl, hb5⟩
       have H5 := (H4.alloc _).below hb5
       have hb5' := (hb4'.alloc hb4'.size _).trans (hb5.mono (by have := hb4'.size; simp; omega))
       have hC5 : C8 w5 A4 3 [102, 111, 111] := (hC4.below ((Below.refl _ _).alloc (Nat.le_refl _) _)).below hb5
       have T1 : True := trivial
       clear H4 hC4 hb5)
    | (go_at_call 40; (with_reducible refine (text_any D _ _ HDG.out).mono ?_); rintro e w6 ⟨rfl, hb6⟩
       have H6 := H5.below hb6
       have hb6' := hb5'.trans (hb6.mono hb5'.size)
       have hC6 := hC5.below hb6
       clear H5 T1 hC5 hb6)
    | (go_at_call 19; (with_reducible refine (HS2.out _ hb6' H6).mono ?_); rintro e w7 ⟨rfl, hb7⟩
       have H7 := H6.below hb7
       have hb7' := hb6'.trans (hb7.mono hb6'.size)
       have hC7 := hC6.below hb7
       clear H6 hC6 hb7)
    | (go_at_call 40; (with_reducible refine (text_any D _ _ HDG.out).mono ?_); rintro e w8 ⟨rfl, hb8⟩
       have H8 := H7.below hb8
       have hb8' := hb7'.trans (hb8.mono hb7'.size)
       have hC8 := hC7.below hb8
       clear H7 hC7 hb8)
    | (go_at_call 20; (with_reducible refine (HZ.out _ H8).mono ?_); rintro e w9 ⟨rfl, rfl⟩)
    | (go_at_call 34; (refine (digest_Hex.calls 10 _ 2 [10, 255] _ _ (C8.lit w8 [10, 255] _ 2 _ rfl rfl (by decide)) (by decide) live_hex).mono ?_); rintro e w10 ⟨rfl, hb10⟩
       have hb10' := (hb8'.alloc hb8'.size _).trans (hb10.mono (by have := hb8'.size; simp; omega))
       have hC10 : C8 w10 A4 3 [102, 111, 111] := (hC8.below ((Below.refl _ _).alloc (Nat.le_refl _) _)).below hb10)
    | (go_at_call 31; (with_reducible refine (wicketlaw02_num.calls 0 0 _ rfl).mono ?_); rintro e w11 ⟨rfl, ⟨⟨n11, rfl⟩⟩⟩
       have hcv := Kd.C_string (P := Tryd.prog) (w := w10.drewN n11) (A := A4) (c := c4) Tryd.underlying22 Tryd.underlying5 Tryd.underlying9 (show Kd.C (Kd.int .u8) (w10.drewN n11) A4 3 (toI [102, 111, 111]) from hC10)
       rw [show strOfNums (toI [102, 111, 111]) = ⟨#[102, 111, 111]⟩ from live_foo] at hcv))
  go_ret
  exact ⟨rfl, below_drewN hb10' _⟩
end Go.Proofs.YtfedlgcpgfofjaaDoor.Sha
namespace Go.Proofs.YtfedlgcpgfofjaaDoor.Sha
open Go.RowKit Go.Proofs.YtfedlgcpgfofjaaDoorW.PrintWords Go.Proofs.YtfedlgcpgfofjaaDoor.PAll Go.Proofs.YtfedlgcpgfofjaaDoor.Plain
set_option linter.unusedVariables false
theorem info5_size : (Tryd.prog.info? 5).map (·.size) = some 1 := by kernel_rfl
theorem cells5 : Tryd.prog.cellsOf 5 = 1 := by kernel_rfl
theorem run_eqItems_bytes (d : Nat) (D E : List Nat) (W : World) : ∀ (is : List Nat), (∀ i ∈ is, i < D.length ∧ i < E.length) →
    (Op.eqItems (d + 1) 5 1 (D.map v8).toArray (E.map v8).toArray is).run Tryd.prog W = .ok (is.all fun i => decide (D.getD i 0 = E.getD i 0)) W
  | [], _ => rfl
  | i :: is, h => by
    obtain ⟨h1, h2⟩ := h i (by simp)
    have hp : ∀ (L : List Nat), i < L.length → (part 5 (L.map v8).toArray (i * 1)).run Tryd.prog W = .ok (.int .u8 (L.getD i 0 : Nat)) W := fun L hL => by
      have hagg : (isAgg 5).run Tryd.prog W = .ok false W := by
        unfold isAgg
        rw [Sem.run_bind, run_underlying Tryd.underlying5 W]
        rfl
      have hg : (L.map v8).toArray[i * 1]? = some (.int .u8 (L.getD i 0 : Nat)) := by
        rw [Nat.mul_one, List.getElem?_toArray, List.getElem?_map, List.getElem?_eq_getElem hL, List.getD_eq_getElem?_getD, List.getElem?_eq_getElem hL]
        rfl
      simp only [part, Sem.run_bind, hagg, Result.andThen_ok, Bool.false_eq_true, if_false, hg, Sem.run_pure]
    have he := run_equalIn_int (P := Tryd.prog) W d 5 .u8 .u8 (D.getD i 0 : Nat) (E.getD i 0 : Nat) Tryd.underlying5
    have ih := run_eqItems_bytes d D E W is (fun j hj => h j (by simp [hj]))
    simp only [Op.eqItems, Sem.run_bind, hp D h1, hp E h2, Result.andThen_ok, he, List.all_cons]
    by_cases hx : D.getD i 0 = E.getD i 0
    · have hb : (((D.getD i 0 : Nat) : Int) == ((E.getD i 0 : Nat) : Int)) = true := by rw [hx]; simp
      rw [hb, decide_eq_true hx]
      simpa using ih
    · have hb : (((D.getD i 0 : Nat) : Int) == ((E.getD i 0 : Nat) : Int)) = false := by
        rw [Bool.eq_false_iff]; intro h; exact hx (by have := eq_of_beq h; omega)
      rw [hb, decide_eq_false hx]
      rfl
theorem run_eql24 (D E : List Nat) (hD : D.length = 32) (hE : E.length = 32) (W : World) :
    (binOp .eql 24 (.agg (D.map v8).toArray) (.agg (E.map v8).toArray)).run Tryd.prog W = .ok (.bool (decide (D = E))) W := by
  obtain ⟨i, hi⟩ : ∃ i, Tryd.prog.info? 5 = some i := by
    have := info5_size
    cases h : Tryd.prog.info? 5 with
    | none => rw [h] at this; cases this
    | some i => exact ⟨i, rfl⟩
  have h := run_equalIn_array (P := Tryd.prog) W 9999 (D.map v8).toArray (E.map v8).toArray Tryd.underlying24 hi
  rw [cells5, run_eqItems_bytes 9998 D E W _ (fun i hi => by have := List.mem_range.1 hi; omega)] at h
  have e : ((List.range 32).all fun i => decide (D.getD i 0 = E.getD i 0)) = decide (D = E) := by
    rw [Bool.eq_iff_iff, List.all_eq_true, decide_eq_true_eq]
    constructor
    · intro hh
      apply List.ext_getElem (by omega)
      intro j h1 h2
      have := of_decide_eq_true (hh j (List.mem_range.2 (by omega)))
      rw [List.getD_eq_getElem?_getD, List.getD_eq_getElem?_getD, List.getElem?_eq_getElem h1, List.getElem?_eq_getElem h2] at this
      exact this
    · rintro rfl j _
      simp
  rw [e] at h
  simp only [binOp]
  simp [Op.equal, Op.maxDepth, h]
/-- What is laid behind what is lent. -/
def marks : List Nat := (List.range 64).map fun i => (200 + i % 7) % 256
theorem marks_len : marks.length = 64 := by decide
theorem marks_all : All 256 marks := all_dec (by decide)
theorem marks_at (i : Nat) (h : i < 64) : marks.getD i 0 = 200 + i % 7 := by
  simp [marks, List.getD_eq_getElem?_getD, h]; omega
/-- Integers that are bytes, as naturals. -/
def toN (l : List Int) : List Nat := l.map Int.toNat
theorem toI_toN {l : List Int} (h : ∀ x ∈ l, 0 ≤ x) : toI (toN l) = l := by
  unfold toI toN
  rw [List.map_map]
  conv => rhs; rw [← List.map_id l]
  apply List.map_congr_left
  intro x hx
  have := h x hx
  simp
  omega
theorem toN_all {l : List Int} (h : ∀ x ∈ l, x < 256) : All 256 (toN l) := by
  intro y hy
  obtain ⟨x, hx, rfl⟩ := List.mem_map.1 hy
  have := h x hx
  omega
theorem toI_app (a b : List Nat) : toI (a ++ b) = toI a ++ toI b := List.map_append ..
theorem lent_loop (p : List Nat) (hp : p.length ≤ 100000000000000) : ∀ (m i : Nat), i + m = 64 → Ev (fun k => wicketlaw02_lent.l0 k (toI p ++ toI (marks.take i)) (i : Int)) (toI p ++ toI marks) := by
  intro m
  induction m with
  | zero =>
    intro i hi
    refine Ev.step (f := fun _ => some (toI p ++ toI (marks.take i))) (fun k => ?_) (Ev.eq (Ev.now _) ?_)
    · simp only [wicketlaw02_lent.l0]
      rw [if_neg (by omega)]
    · rw [List.take_of_length_le (by rw [marks_len]; omega)]
  | succ m ih =>
    intro i hi
    have hl : (toI p ++ toI (marks.take i)).length < 140737488355328 := by rw [List.length_append, toI_len, toI_len, List.length_take, marks_len]; omega
    refine Ev.step (fun k => ?_) (ih (i + 1) (by omega))
    · simp only [wicketlaw02_lent.l0]
      rw [if_pos (by omega), if_pos hl]
      have e1 : wrap64 (200 + Int.tmod (i : Int) 7) % 256 = ((marks.getD i 0 : Nat) : Int) := by
        rw [marks_at i (by omega), Int.tmod_eq_emod_of_nonneg (by omega), w64 (by omega) (by omega)]
        omega
      have e2 : marks.take (i + 1) = marks.take i ++ [marks.getD i 0] := by
        rw [List.take_succ_eq_append_getElem (by rw [marks_len]; omega), List.getD_eq_getElem?_getD, List.getElem?_eq_getElem (by rw [marks_len]; omega)]; rfl
      rw [e1, e2, toI_app, w64 (by omega) (by omega), List.append_assoc]
      rfl
theorem lent_ev (p : List Nat) (hp : p.length ≤ 100000000000000) : Ev (fun k => wicketlaw02_lent.f k (toI p)) (toI (p ++ marks)) := by
  unfold wicketlaw02_lent.f
  have h := lent_loop p hp 64 0 (by omega)
  rw [List.take_zero] at h
  simp only [Option.bind_some]
  refine Ev.pos (by rw [toI_len]; simp; omega) ?_
  rw [toI_app]
  have e : (([] : List Int) ++ toI p) = toI p ++ toI [] := by simp [toI]
  rw [e]
  exact h
theorem kept_loop (p : List Nat) (hp : p.length ≤ 100000000000000) : ∀ (m i : Nat), i + m = 64 → Ev (fun k => wicketlaw02_kept.l0 k (toI (p ++ marks)) (toI p) (i : Int)) true := by
  intro m
  have hl : (toI (p ++ marks)).length = p.length + 64 := by rw [toI_len, List.length_append, marks_len]
  have hl2 : (toI p).length = p.length := toI_len p
  induction m with
  | zero =>
    intro i hi
    refine Ev.step (f := fun _ => some true) (fun k => ?_) (Ev.now _)
    simp only [wicketlaw02_kept.l0]
    rw [if_neg (by omega), if_pos (by omega), if_pos (by omega), hl2, Int.toNat_natCast]
    have e : (toI (p ++ marks)).take p.length = toI p := by
      rw [toI_app, List.take_left' hl2]
    rw [e]
    simp [wicketlaw02_same.f]
  | succ m ih =>
    intro i hi
    refine Ev.step (fun k => ?_) (ih (i + 1) (by omega))
    simp only [wicketlaw02_kept.l0]
    have ew : wrap64 (((toI p).length : Int) + (i : Int)) = ((p.length + i : Nat) : Int) := by rw [hl2, w64 (by omega) (by omega)]; omega
    have e0 : rd (toI (p ++ marks)) ((p.length + i : Nat) : Int) = ((marks.getD i 0 : Nat) : Int) := by
      unfold rd
      rw [Int.toNat_natCast, toI_getD, List.getD_eq_getElem?_getD, List.getElem?_append_right (by omega), Nat.add_sub_cancel_left, List.getD_eq_getElem?_getD]
    have e1 : wrap64 (200 + Int.tmod (i : Int) 7) % 256 = ((marks.getD i 0 : Nat) : Int) := by
      rw [marks_at i (by omega), Int.tmod_eq_emod_of_nonneg (by omega), w64 (by omega) (by omega)]
      omega
    rw [if_pos (by omega), ew, if_pos (by omega), if_pos (by omega), if_pos (by rw [e0, e1]), w64 (by omega) (by omega)]
    rfl
theorem kept_ev (p : List Nat) (hp : p.length ≤ 100000000000000) : Ev (fun k => wicketlaw02_kept.f k (toI (p ++ marks)) (toI p)) true := kept_loop p hp 64 0 (by omega)
/-- The tables as they lie when the call begins. -/
def Tabs (w : World) : Prop := Tab1 w ∧ Tab2 w ∧ TabF w ∧ 2 < w.heap.size
theorem Tabs.below {w w' : World} (h : Tabs w) (hb : Below w.heap.size w w') : Tabs w' :=
  ⟨h.1.below hb (by have := h.2.2.2; omega), h.2.1.below hb h.2.2.2, h.2.2.1.below hb (by have := h.2.2.2; omega), Nat.lt_of_lt_of_le h.2.2.2 hb.size⟩
theorem lent_any (p : List Nat) (A : Option Addr) (c : Nat) (w : World) (hp : p.length ≤ 100000000000000) (hc : p.length ≤ c) (hC : C8 w A p.length p) :
    Calls Tryd.prog 13 #[.slice A p.length c] w fun e w' => ∃ v, e = .returned v ∧ Own w' w.heap.size v (p ++ marks) ∧ Below w.heap.size w w' := by
  obtain ⟨k, hk⟩ := Ev.rounds (lent_ev p hp)
  have h := wicketlaw02_lent.calls k A c (toI p) _ w (by rw [toI_len]; exact hC) (by rw [toI_len]; exact hc) hk
  rw [toI_len] at h
  exact h.mono fun e w' ⟨v, he, hR, hb⟩ => ⟨v, he, Own.of_R hR, hb⟩
theorem kept_any (p : List Nat) (A A' : Option Addr) (n c c' : Nat) (w : World) (hn : n = p.length + 64) (hp : p.length ≤ 100000000000000) (hc : n ≤ c) (hc' : p.length ≤ c') (hC : C8 w A n (p ++ marks)) (hC' : C8 w A' p.length p) :
    Calls Tryd.prog 16 #[.slice A n c, .slice A' p.length c'] w fun e w' => e = .returned (.bool true) ∧ Below w.heap.size w w' := by
  obtain ⟨k, hk⟩ := Ev.rounds (kept_ev p hp)
  have hl : (toI (p ++ marks)).length = n := by rw [toI_len, List.length_append, marks_len, hn]
  have h := wicketlaw02_kept.calls k A c (toI (p ++ marks)) A' c' (toI p) true w (by rw [hl]; exact hC) (by rw [hl]; exact hc) (by rw [toI_len]; exact hC') (by rw [toI_len]; exact hc') hk
  rw [hl, toI_len] at h
  exact h.mono fun e w' ⟨he, hd⟩ => ⟨he, hd.below⟩
end Go.Proofs.YtfedlgcpgfofjaaDoor.Sha
namespace Go.Proofs.YtfedlgcpgfofjaaDoor.Sha
open Go.RowKit Go.Proofs.YtfedlgcpgfofjaaDoorW.PrintWords
set_option linter.unusedVariables false
theorem tab_of_reads {W : World} {name : String} {zs : List Nat} {g t n : Nat} {d : DataW Unit} (hd : d = Lib.tabData .u32 (toI zs)) (hg : Tryd.prog.globalNamed name = some g) (hty : (Tryd.prog.globals[g]?).map (·.type) = some t)
    (ht : Tryd.prog.underlying t = some (.array n 55)) (hct : Tryd.prog.cellsOf t = n) (h : Lib.VarReads Tryd.prog W name d) : ∀ j, j < zs.length → W.cell? ⟨g, j, none⟩ = some (v32 (zs.getD j 0)) := by
  obtain ⟨g', t', cs, fuel, p, hg', ht', hvar, hr⟩ := h
  obtain rfl := Option.some.inj (hg.symm.trans hg')
  obtain rfl := Option.some.inj (hty.symm.trans ht')
  rw [hd] at hr
  have hc := Lib.cells_of_tab ht Tryd.underlying55 (by kernel_rfl) hct hr
  have hT : Lib.TabIs Tryd.prog W name .u32 (toI zs) := by unfold Lib.TabIs; rw [hvar, ← hc]
  intro j hj
  have := hT.cell hg j (by rw [toI_len]; exact hj)
  rw [toI_getD] at this
  exact this
theorem tab1_of_laid {W : World} {l : List (String × DataW Unit)} (h : laidMet Tryd.prog l W) (hm : ("wicket/digest.roots", Rows.laid_wicket_digest_roots) ∈ l) : Tab1 W ∧ 1 < W.heap.size := by
  have h1 : Tab1 W := tab_of_reads (zs := roots) (by kernel_rfl) (by kernel_rfl) (by kernel_rfl) Tryd.underlying91 (by kernel_rfl) (Lib.laidMet.reads h hm)
  exact ⟨h1, block_lt_of_cell (a := ⟨1, 0, none⟩) (h1 0 (by decide))⟩
theorem tabF_of_laid {W : World} {l : List (String × DataW Unit)} (h : laidMet Tryd.prog l W) (hm : ("wicket/digest.first", Rows.laid_wicket_digest_first) ∈ l) : TabF W :=
  tab_of_reads (zs := first) (by kernel_rfl) (by kernel_rfl) (by kernel_rfl) Tryd.underlying73 (by kernel_rfl) (Lib.laidMet.reads h hm)
theorem tab2_of_laid {W : World} {l : List (String × DataW Unit)} (h : laidMet Tryd.prog l W) (hm : ("wicket/wicketref02.roots", Rows.laid_wicket_wicketref02_roots) ∈ l) : Tab2 W ∧ 2 < W.heap.size := by
  have h1 : Tab2 W := tab_of_reads (zs := roots) (by kernel_rfl) (by kernel_rfl) (by kernel_rfl) Tryd.underlying91 (by kernel_rfl) (Lib.laidMet.reads h hm)
  exact ⟨h1, block_lt_of_cell (a := ⟨2, 0, none⟩) (h1 0 (by decide))⟩
theorem tabs_of_laid {W : World} (h : laidMet Tryd.prog [("wicket/digest.roots", Rows.laid_wicket_digest_roots), ("wicket/digest.first", Rows.laid_wicket_digest_first), ("wicket/wicketref02.roots", Rows.laid_wicket_wicketref02_roots)] W) : Tabs W :=
  ⟨(tab1_of_laid h (by simp)).1, (tab2_of_laid h (by simp)).1, tabF_of_laid h (by simp), (tab2_of_laid h (by simp)).2⟩
/-- Without the reference's table. -/
def TabsP (w : World) : Prop := Tab1 w ∧ TabF w ∧ 1 < w.heap.size
theorem tabsP_of_laid {W : World} {l : List (String × DataW Unit)} (h : laidMet Tryd.prog l W) (h1 : ("wicket/digest.roots", Rows.laid_wicket_digest_roots) ∈ l) (h2 : ("wicket/digest.first", Rows.laid_wicket_digest_first) ∈ l) : TabsP W :=
  ⟨(tab1_of_laid h h1).1, tabF_of_laid h h2, (tab1_of_laid h h1).2⟩
theorem TabsP.below {w w' : World} (h : TabsP w) (hb : Below w.heap.size w w') : TabsP w' :=
  ⟨h.1.below hb (by have := h.2.2; omega), h.2.1.below hb (by have := h.2.2; omega), Nat.lt_of_lt_of_le h.2.2 hb.size⟩
end Go.Proofs.YtfedlgcpgfofjaaDoor.Sha
namespace Go.Proofs.YtfedlgcpgfofjaaDoor.Sha
theorem tabsP_two {W : World} (h : laidMet Tryd.prog [("wicket/digest.roots", Rows.laid_wicket_digest_roots), ("wicket/digest.first", Rows.laid_wicket_digest_first)] W) : TabsP W := tabsP_of_laid h (by simp) (by simp)
end Go.Proofs.YtfedlgcpgfofjaaDoor.Sha
namespace Go.Proofs.YtfedlgcpgfofjaaDoor.Sha
open Go.RowKit Go.Proofs.YtfedlgcpgfofjaaDoorW.PrintWords Go.Proofs.YtfedlgcpgfofjaaDoor.PAll Go.Proofs.YtfedlgcpgfofjaaDoor.Plain
set_option linter.unusedVariables false
theorem C8.take {w : World} {A : Option Addr} {n : Nat} {p : List Nat} (h : C8 w A n p) (m : Nat) (hm : m ≤ n) : C8 w A m (p.take m) := by
  rcases Nat.eq_zero_or_pos m with h0 | h0
  · subst h0
    rw [List.take_zero]
    exact C8.nil w A
  · have hn := h.len
    obtain ⟨b, o, rfl, hlt, hbs⟩ := h.at_ (by omega)
    have hb : Bs w b o (p.take m) := fun j hj => by
      rw [List.length_take] at hj
      rw [hbs j (by omega), getD_take _ _ _ (by omega)]
    have hl : (p.take m).length = m := by rw [List.length_take]; omega
    have h9 := h.2.1
    have := C8.of_Bs hb (by omega)
    rwa [hl] at this
theorem range_below {w w' : World} {g : Nat} {cs : List Value} (h : w.rangeAt g 0 cs) (hb : Below w.heap.size w w') (hlt : g < w.heap.size) : w'.rangeAt g 0 cs := fun j v hj => (hb.cell (p := ⟨g, 0 + j, none⟩) hlt).trans (h j v hj)
set_option maxRecDepth 100000 in
set_option maxHeartbeats 1000000 in
theorem law_sums (p : List Nat) (A : Option Addr) (c : Nat) (w : World) (hp : p.length ≤ 1000000000000) (hc : p.length ≤ c) (hpa : All 256 p) (hC : C8 w A p.length p) (hT : Tabs w) :
    Calls Tryd.prog 3 #[.slice A p.length c] w fun e w' => e = .returned (.bool true) ∧ Below w.heap.size w w' := by
  obtain ⟨D, hD⟩ : ∃ D, D = sumOf p := ⟨_, rfl⟩
  have hDl : D.length = 32 := by rw [hD]; exact sumOf_len p
  have heq : ∀ W : World, (binOp .eql 24 (.agg (D.map v8).toArray) (.agg (D.map v8).toArray)).run Tryd.prog W = .ok (.bool true) W := fun W => by
    have h := run_eql24 D D hDl hDl W
    rwa [decide_eq_true rfl] at h
  obtain ⟨L, hL⟩ : ∃ L, L = p.length := ⟨_, rfl⟩
  have h1 : ∀ (W : World), Below w.heap.size w W → Calls Tryd.prog 13 #[.slice A L c] W fun e w' => ∃ v, e = .returned v ∧ Own w' W.heap.size v (p ++ marks) ∧ Below W.heap.size W w' := fun W hb => by
    rw [hL]; exact lent_any p A c W (by omega) hc (hC.below hb)
  have h2 : ∀ (W : World) (A' : Option Addr) (c' : Nat), Below w.heap.size w W → C8 W A' L p → L ≤ c' → Calls Tryd.prog 14 #[.slice A' L c'] W fun e w' => e = .returned (.agg (D.map v8).toArray) ∧ Below W.heap.size W w' := fun W A' c' hb hC' hc' => by
    rw [hD]
    rw [hL] at hC' hc' ⊢
    exact sum_any p A' c' W (by omega) hc' hpa hC' (hT.below hb).1 (hT.below hb).2.2.1 (by have := (hT.below hb).2.2.2; omega)
  have h3 : ∀ (W : World), Below w.heap.size w W → Calls Tryd.prog 15 #[] W fun e w' => e = .returned (.bool true) ∧ Below W.heap.size W w' := fun W hb => live_any W (hT.below hb).1 (hT.below hb).2.2.1 (by have := (hT.below hb).2.2.2; omega)
  have h4 : ∀ (W : World) (A' : Option Addr) (n c' : Nat), Below w.heap.size w W → n = L + 64 → C8 W A' n (p ++ marks) → n ≤ c' → Calls Tryd.prog 16 #[.slice A' n c', .slice A L c] W fun e w' => e = .returned (.bool true) ∧ Below W.heap.size W w' := fun W A' n c' hb hn hC' hc' => by
    rw [hL] at hn ⊢
    exact kept_any p A' A n c' c W hn (by omega) hc' hc hC' (hC.below hb)
  have h5 : ∀ (W : World), Below w.heap.size w W → Calls Tryd.prog 17 #[.slice A L c] W fun e w' => e = .returned (.agg (D.map v8).toArray) ∧ Below W.heap.size W w' := fun W hb => by
    rw [hD, hL]
    exact rsum_any p A c W (by omega) hpa (hC.below hb) (hT.below hb).2.1 (hT.below hb).2.2.2
  have H1 := Lib.hid h1; have H2 := Lib.hid h2; have H3 := Lib.hid h3; have H4 := Lib.hid h4; have H5 := Lib.hid h5
  have HDl := Lib.hid hDl; have HL := Lib.hid hL
  rw [← hL] at hp hc
  rw [← hL]
  clear h1 h2 h3 h4 h5 hD hDl hL hC
  have i0 : (0 : Int) ≤ (L : Int) := by omega
  go_enter Tryd.func3, Tryd.ntmps3
  go_wp2_with (first
    | (go_at_call 13; (with_reducible refine (H1.out _ (Below.refl _ _)).mono ?_); rintro e w1 ⟨v1, rfl, O1, hb1⟩
       obtain ⟨A1, c1, hv1, hc1, hC1⟩ := O1.arg
       have hn1 : (p ++ marks).length = L + 64 := by rw [List.length_append, marks_len, ← HL.out]
       rw [hn1] at hv1 hc1 hC1
       subst hv1
       have hpre : C8 w1 A1 L p := by
         have h := hC1.take L (by omega)
         rwa [List.take_left' HL.out.symm] at h
       have j1 : (L : Int) ≤ (c1 : Int) := by omega
       clear hn1 O1)
    | (go_at_call 14; (with_reducible refine (H2.out _ _ _ hb1 hpre (by omega)).mono ?_); rintro e w2 ⟨rfl, hb2⟩
       have hb2' := hb1.trans (hb2.mono hb1.size)
       have hC2 := hC1.below hb2
       clear hC1 hpre hb2)
    | (refine wpl_store rfl 24 _ _ rfl w2.heap.size 0 rfl 24 [] ((List.replicate 32 0).map v8) [] (D.map v8) rfl (by rw [List.nil_append, List.append_nil]; exact Blk.new w2 24 (c8 (List.replicate 32 0))) rfl (by rw [List.length_map, HDl.out]; rfl) (by rw [List.length_map, HDl.out]; kernel_rfl) (v8_one D) ?_; intro w3 B3 O3))
  dsimp only [Act.put]
  have hb3 : Below w.heap.size w w3 := O3.below (hb2'.alloc hb2'.size _) hb2'.size
  have hC3 : C8 w3 A1 (L + 64) (p ++ marks) := hC2.below (O3.below ((Below.refl w2.heap.size w2).alloc (Nat.le_refl _) _) (Nat.le_refl _))
  have hS3 : w3.rangeAt w2.heap.size 0 (D.map v8) := range_of_blk B3
  have hlt3 : w2.heap.size < w3.heap.size := by rw [O3.size]; simp
  clear hC2 hb2' B3
  have hu := Tryd.underlying24
  have hi : (Tryd.prog.info? 24).map (·.size) = some (D.map v8).length := by rw [List.length_map, HDl.out]; kernel_rfl
  have hl32 : (D.map v8).length = 32 := by rw [List.length_map, HDl.out]
  have hone := v8_one D
  go_region_held3 (fun w' => w'.rangeAt w2.heap.size 0 (D.map v8)) (first | assumption | go_keep_ranges)
    (first
      | (go_at_call 15; refine (H3.out _ (by first | exact hb3 | exact hb3.drew | exact below_drewN hb3 _)).mono ?_; rintro e w4 ⟨rfl, hb4⟩
         have hb4w : Below w3.heap.size w3 w4 := ⟨hb4.os, hb4.tape, hb4.output, hb4.size, hb4.block⟩
         have hS4 : w4.rangeAt w2.heap.size 0 (D.map v8) := range_below hS3 hb4w hlt3
         have hb4' := hb3.trans (hb4w.mono hb3.size)
         have hC4 := hC3.below hb4w
         have hlt4 : w2.heap.size < w4.heap.size := Nat.lt_of_lt_of_le hlt3 hb4w.size)
      | (go_at_call 16; refine (H4.out _ A1 (L + 64) c1 (by first | exact hb4' | exact hb4'.drew | exact below_drewN hb4' _) rfl hC4 (by omega)).mono ?_; rintro e w5 ⟨rfl, hb5⟩
         have hb5w : Below w4.heap.size w4 w5 := ⟨hb5.os, hb5.tape, hb5.output, hb5.size, hb5.block⟩
         have hS5 : w5.rangeAt w2.heap.size 0 (D.map v8) := range_below hS4 hb5w hlt4
         have hb5' := hb4'.trans (hb5w.mono hb4'.size)
         have hlt5 : w2.heap.size < w5.heap.size := Nat.lt_of_lt_of_le hlt4 hb5w.size)
      | (go_at_call 17; refine (H5.out _ (by first | exact hb5' | exact hb5'.drew | exact below_drewN hb5' _)).mono ?_; rintro e w6 ⟨rfl, hb6⟩
         have hb6w : Below w5.heap.size w5 w6 := ⟨hb6.os, hb6.tape, hb6.output, hb6.size, hb6.block⟩
         have hS6 : w6.rangeAt w2.heap.size 0 (D.map v8) := range_below hS5 hb6w hlt5
         have hb6' := hb5'.trans (hb6w.mono hb5'.size)))
  go_wp2
  go_ret
  exact ⟨rfl, by first | exact hb6' | exact hb6'.drew | exact below_drewN hb6' _⟩
end Go.Proofs.YtfedlgcpgfofjaaDoor.Sha
namespace Go.Proofs.YtfedlgcpgfofjaaDoor.Sha
open Go.RowKit Go.Proofs.YtfedlgcpgfofjaaDoorW.PrintWords
set_option linter.unusedVariables false
theorem byte_of_wf {y : Int} (h : (Lit.int .u8 y).wf = true) : 0 ≤ y ∧ y < 256 := by
  simp [Lit.wf, IntKind.min, IntKind.max, IntKind.bits, IntKind.signed] at h
  omega
theorem bytes_of_ok {l : List Int} (h : ∀ y, y ∈ l → (Lit.int .u8 y).wf = true) : toI (toN l) = l ∧ All 256 (toN l) :=
  ⟨toI_toN fun x hx => (byte_of_wf (h x hx)).1, toN_all fun x hx => (byte_of_wf (h x hx)).2⟩
theorem toN_len (l : List Int) : (toN l).length = l.length := List.length_map _
theorem sum_ones (l : List Int) : (l.map fun _ => 1).sum = l.length := by
  induction l with
  | nil => rfl
  | cons x l ih => simp [ih]; omega
theorem row_sums (a0 : List Int) (o0 : a0.length * 1 ≤ 140737488351232 ∧ ∀ y, y ∈ a0 → (Lit.int .u8 y).wf = true) (hb : ((a0.map fun y => 1).sum + 1) ≤ 1048576) (W : World) (A0 : Option Addr) (c0 : Nat)
    (hr : Kd.C (Kd.int .u8) W A0 a0.length a0) (hc : a0.length ≤ c0) (hT : Tabs W) :
    Calls Tryd.prog 3 #[.slice A0 a0.length c0] W fun e w' => e = .returned (.bool true) ∧ Below W.heap.size W w' := by
  obtain ⟨h1, h2⟩ := bytes_of_ok o0.2
  rw [sum_ones] at hb
  have hl := toN_len a0
  have h := law_sums (toN a0) A0 c0 W (by omega) (by omega) h2 (by show Kd.C _ _ _ _ _; rw [h1, hl]; exact hr) hT
  rw [hl] at h
  exact h
end Go.Proofs.YtfedlgcpgfofjaaDoor.Sha
namespace Go.Proofs.YtfedlgcpgfofjaaDoor.Sha
open Go.RowKit Go.Proofs.YtfedlgcpgfofjaaDoorW.PrintWords
set_option linter.unusedVariables false
/-- Not one row. -/
def Apart (u v : Value) : Prop := ∀ k, u.ownBlock = some k → v.ownBlock ≠ some k
theorem Apart.symm {u v : Value} (h : Apart u v) : Apart v u := fun k hk e => h k e hk
theorem Apart.nil_left (v : Value) : Apart (.slice none 0 0) v := fun k hk => by simp [Value.ownBlock] at hk
theorem Apart.nil_right (v : Value) : Apart v (.slice none 0 0) := (Apart.nil_left v).symm
theorem Own.far {w w' : World} {base : Nat} {u v : Value} {q : List Nat} (h : Own w base u q) (G : w.grownBy w' v.ownBlock) (ha : Apart u v) : Own w' base u q :=
  own_move h (fun k hk => G.block k (own_lt h k hk) (fun e => ha k hk e.symm))
theorem Apart.grow {w : World} {base : Nat} {u v v' : Value} {q : List Nat} {n : Nat} (ha : Apart u v) (h : Own w base u q) (hn : w.heap.size ≤ n) (hv : v'.ownBlock = v.ownBlock ∨ v'.ownBlock = some n) : Apart u v' := fun k hk e => by
  rcases hv with hv | hv
  · exact ha k hk (hv ▸ e)
  · rw [hv] at e
    injection e with e
    have := own_lt h k hk
    omega
theorem Own.c8 {w : World} {base : Nat} {A : Option Addr} {n c : Nat} {p : List Nat} (h : Own w base (.slice A n c) p) : n = p.length ∧ n ≤ c ∧ C8 w A p.length p := by
  obtain ⟨A', c', he, hl, hC⟩ := h.arg
  injection he with e1 e2 e3
  subst e1 e2 e3
  exact ⟨rfl, hl, hC⟩
theorem Own.nil_alloc (w : World) (base g : Nat) (hg : g = w.heap.size) (hb : base ≤ g) : Own (w.alloc (.cells #[] 5)) base (.slice (some ⟨g, 0, none⟩) 0 0) [] := Own.of_Blk (p := []) (Blk.new_ w 5 #[] g hg.symm) hb (by simp)
theorem C8.of_Blk {w : World} {g t : Nat} {S : List Nat} (h : Blk w g t ([] ++ S.map v8 ++ []).toArray) (n : Nat) (hn : n = S.length) (hl : n ≤ 9223372036854775807) : C8 w (some ⟨g, 0, none⟩) n S := by
  subst hn
  rw [List.nil_append, List.append_nil] at h
  exact C8.of_Bs (fun i hi => (h.cell (0 + i)).trans (by rw [List.getElem?_toArray, List.getElem?_map, Nat.zero_add, List.getElem?_eq_getElem hi, List.getD_eq_getElem?_getD, List.getElem?_eq_getElem hi]; rfl)) hl
theorem Own.cellAt {w : World} {base b o n c : Nat} {p : List Nat} (h : Own w base (.slice (some ⟨b, o, none⟩) n c) p) {j x : Nat} (hx : p[j]? = some x) : w.cell? ⟨b, o + j, none⟩ = some (.int .u8 (x : Int)) := by
  obtain ⟨h1, h2, hC⟩ := h.c8
  have hj := (List.getElem?_eq_some_iff.1 hx).1
  obtain ⟨b', o', e, _, hbs⟩ := hC.at_ (by omega)
  injection e with e
  injection e with e1 e2 e3
  subst e1 e2
  rw [hbs j hj, List.getD_eq_getElem?_getD, hx]
  rfl
theorem Own.only_new {w w' : World} {base : Nat} {v : Value} {p : List Nat} {o : Obj} (h : Own w base v p) (O : Only w.heap.size (w.alloc o) w') : Own w' base v p :=
  (h.alloc o).only O (fun e => by have := own_lt h _ e; omega)
theorem wpList_wanted {P : Program} {ops : Array Oper} {Q : Exit → Act → World → Prop} {a : Act} {w : World} {rest : List Oper} {o : Oper} (hw : Region.wanted o (yielded ops a.tmps) = true)
    (h : ∀ K : Act → World → Prop, (∀ a w, wpList P ops Q rest a w → K a w) → o.wp P a w K Q) : wpList P ops Q (o :: rest) a w :=
  wpList_step fun K hK => by rw [if_pos hw]; exact h K hK
section
variable {P : Program} {w : World} {ops : Array Oper} {rest : List Oper} {o : Oper} {a : Act} {Q : Exit → Act → World → Prop}
theorem wplw_append (hgd : Region.wanted o (yielded ops a.tmps) = true) (s x : Operand) (t : TypeId) (ho : o.op = .call { callee := .builtin .append, args := #[s, x], argTypes := #[t, t] })
    (hinfo : (P.info? 5).map (fun i => (i.zero, i.size, i.bytes)) = some (some (.int .u8 0), 1, 1)) (ht : P.underlying t = some (.slice 5)) (base : Nat)
    (v : Value) (p : List Nat) (hs : a.eval s = v) (hown : Own w base v p) (A : Option Addr) (c n : Nat) (q : List Nat) (hx : a.eval x = .slice A n c) (hn : n = q.length) (hr : C8 w A q.length q)
    (hbytes : p.length + q.length ≤ 140737488355328) (hbase : base ≤ w.heap.size)
    (h : ∀ v' w', Own w' base v' (p ++ q) → w.grownBy w' v.ownBlock → (v'.ownBlock = v.ownBlock ∨ v'.ownBlock = some w.heap.size) → wpList P ops Q rest (a.put o.dst v') w') : wpList P ops Q (o :: rest) a w :=
  wpList_wanted hgd fun _ hK => by
    subst hn
    obtain ⟨v', w', hrun, h2, h3, h4⟩ := run_append_ (P := P) w base t o.type hinfo ht v p hown A c q hr hbytes hbase
    unfold Oper.wp execOp
    simp only [ho, resolve, invoke, builtin, Sem.run_bind, Sem.run_pure, Result.andThen_ok, List.map_toArray, List.map_cons, List.map_nil, hs, hx, hrun]
    exact hK _ _ (h v' w' h2 h3 h4)
theorem wplw_load (hgd : Region.wanted o (yielded ops a.tmps) = true) (ty : TypeId) (x : Operand) (ho : o.op = .load ty x) (g off : Nat) (hx : a.eval x = .pointer (some ⟨g, off, none⟩)) (t : TypeId) (pre mid post : List Value)
    (hB : Blk w g t (pre ++ mid ++ post).toArray) (hoff : pre.length = off) (d : TypeDesc) (hu : P.underlying ty = some d) (hd : d.isRow = true) (hi : (P.info? ty).map (·.size) = some mid.length)
    (h : wpList P ops Q rest (a.put o.dst (.agg mid.toArray)) w) : wpList P ops Q (o :: rest) a w :=
  wpList_wanted hgd fun _ hK => wp_load_mid ty x ho g off hx mid d (hoff ▸ range_of_blk hB) hu hd hi (hK _ _ h)
end
end Go.Proofs.YtfedlgcpgfofjaaDoor.Sha
