/-
  Part 6 of what the proof of ClientProof leans on: words of the print, walks of functions and plain laws; put together by pack.py, a program of this session.
-/
import Derived.Test.YtmimipgmhgalaaaGreatDoorRows
import Derived.ProofKit
import Derived.WalkKit
import Derived.SizedLaws
import Derived.Test.YtmimipgmhgalaaaGreatDoorTie
import Derived.Lib.LaidTab
import Derived.Lib.LaidU8
import Derived.Laws.BitsLemmas
import Derived.Laws.Rows
import Derived.IntWalk
import Derived.KernelRfl
import Derived.Lib.Bytes
import Derived.Lib.LazyBuf
import Derived.Test.YtmimipgmhgalaaaGreatDoorKClientProofe
section
namespace Go.Proofs.YtmimipgmhgalaaaGreatDoor.PAll
open Go.RowKit Go.Proofs.YtmimipgmhgalaaaGreatDoorW.PrintWords
set_option linter.unusedVariables false
set_option linter.unusedSimpArgs false
theorem wide_at (s : ByteArray) (hs : s.size = 5) (h : asciiS s = false) : ∃ j, j < 5 ∧ 128 ≤ (s.data.toList.getD j 0).toNat := by
  unfold asciiS at h
  rw [List.all_eq_false] at h
  obtain ⟨b, hb, hx⟩ := h
  obtain ⟨j, hj⟩ := List.getElem?_of_mem hb
  have hl : j < s.data.toList.length := by
    apply Classical.byContradiction
    intro hn
    rw [List.getElem?_eq_none (by omega)] at hj
    cases hj
  have hl2 : s.data.toList.length = s.size := by rw [Array.length_toList]; rfl
  refine ⟨j, by omega, ?_⟩
  rw [List.getD_eq_getElem?_getD, hj]
  have : ¬ b.toNat < 128 := fun e => hx (decide_eq_true e)
  show 128 ≤ b.toNat
  omega
set_option maxRecDepth 100000 in
set_option maxHeartbeats 1000000 in
theorem basic_wide (h : ByteArray) (h1 : h.size ≤ 1024) (h2 : 6 ≤ h.size) (hn : asciiS (h.extract 0 5) = false) (w : World) (hT : FoldT w) : Calls Tryz.prog 32 #[.string h] w fun e w' => e = .returned (.tuple #[.string ⟨#[]⟩, .string ⟨#[]⟩, .int .i64 113]) ∧ Below w.heap.size w w' := by
  have hs : (h.extract 0 5).size = 5 := by
    have e := Lib.extract_data h 0 5
    have : (h.extract 0 5).data.toList.length = (h.extract 0 5).size := by rw [Array.length_toList]; rfl
    rw [← this, e, List.length_take, List.length_drop, Array.length_toList]
    show min (5 - 0) (h.size - 0) = 5
    omega
  have HF := Lib.hid (fun (V : World) (hV : FoldT V) => fold_wide (h.extract 0 5) hs (wide_at _ hs hn) V hV)
  have HT := Lib.hid hT
  have c1 : ((1024 : Int) < (h.size : Int)) = False := eq_false (by omega)
  have c2 : ((h.size : Int) < 6) = False := eq_false (by omega)
  have c3 : ((5 : Int) ≤ (h.size : Int)) = True := eq_true (by omega)
  have c4 : ((5 : Int) < (h.size : Int)) = True := eq_true (by omega)
  clear hn hT hs
  go_enter Tryz.func32, Tryz.ntmps32
  go_wp2_with (go_at_call 62; refine (HF.out _ HT.out).mono ?_; rintro e w1 ⟨rfl, hb⟩; have HB := Lib.hid hb; clear hb)
  go_ret3
  exact ⟨rfl, HB.out⟩
end Go.Proofs.YtmimipgmhgalaaaGreatDoor.PAll
end
section
namespace Go.Proofs.YtmimipgmhgalaaaGreatDoor.PAll
open Go.RowKit Go.Proofs.YtmimipgmhgalaaaGreatDoorW.PrintWords Go.Proofs.YtmimipgmhgalaaaGreatDoorW.PrintLast Go.Proofs.YtmimipgmhgalaaaGreatDoorW.PrintMore
set_option linter.unusedVariables false
set_option linter.unusedSimpArgs false
def wideE (e1 e2 : Int) : Int := if e1 = 0 ∧ e2 = 0 then 113 else 34
set_option maxRecDepth 100000 in
set_option maxHeartbeats 1000000 in
theorem auth_wide (k : Nat) (V : World) (A0 : Option Addr) (n0 c0 : Nat) (hd : ByteArray) (A2 : Option Addr) (c2 : Nat) (l2 : List S68) (h2 : Kd.C k68 V A2 l2.length l2) (h3 : l2.length ≤ c2) (s1 : hd.size ≤ 1024) (s2 : 6 ≤ hd.size) (hn : asciiS (hd.extract 0 5) = false) (hT : FoldT V)
    (v1 v2 : ByteArray) (b1 b2 : Bool) (e1 e2 : Int) (o1 : urlform_One.f k l2 ⟨#[99, 108, 105, 101, 110, 116, 95, 105, 100]⟩ = some (v1, b1, e1)) (o2 : urlform_One.f k l2 ⟨#[99, 108, 105, 101, 110, 116, 95, 115, 101, 99, 114, 101, 116]⟩ = some (v2, b2, e2)) (he1 : e1 = 0 ∨ e1 = 34) (he2 : e2 = 0 ∨ e2 = 34) :
    Calls Tryz.prog 34 #[.slice A0 n0 c0, .string hd, .slice A2 l2.length c2] V fun e w' => e = .returned (.tuple #[.agg #[.string ⟨#[]⟩, .string ⟨#[]⟩, .int .i64 0, .bool false, .string ⟨#[]⟩, .slice none 0 0], .int .i64 0, .int .i64 (wideE e1 e2)]) ∧ Below V.heap.size V w' := by
  have HO1 := Lib.hid (fun (W : World) (h : Kd.C k68 W A2 l2.length l2) => urlform_One.calls k A2 c2 l2 _ v1 b1 e1 W h h3 o1)
  have HO2 := Lib.hid (fun (W : World) (h : Kd.C k68 W A2 l2.length l2) => urlform_One.calls k A2 c2 l2 _ v2 b2 e2 W h h3 o2)
  have HBas := Lib.hid (fun (W : World) (h : FoldT W) => basic_wide hd s1 s2 hn W h)
  have HT := Lib.hid hT
  have hne : hd.toList ≠ [] := by
    intro h
    have h5 : hd.data.toList = [] := by rw [← ByteArray.toList_eq]; exact h
    have h6 : hd.data.toList.length = hd.size := by rw [Array.length_toList]; rfl
    rw [h5, List.length_nil] at h6
    omega
  have f1 : hd.toList.isEmpty = false := by cases hl : hd.toList with | nil => exact absurd hl hne | cons _ _ => rfl
  have f2 : (hd.toList == []) = false := beq_eq_false_iff_ne.2 hne
  have f3 : (hd.toList != []) = true := bne_iff_ne.2 hne
  clear o1 o2 hn hT hne s1 s2
  rcases he1 with rfl | rfl <;> rcases he2 with rfl | rfl
  all_goals
    go_enter Tryz.func34, Tryz.ntmps34
    go_upto_region 1 with ((with_reducible refine gate_dst (N := 6) rfl ?_); refine box_event ?hg (N := 6) ?hd (cs := #[.string ⟨#[]⟩, .string ⟨#[]⟩, .int .i64 0, .bool false, .string ⟨#[]⟩, .slice none 0 0]) (t := 40) ?hr ?_; (case hd => rfl); (case hg => rfl); (case hr => first | (go_simp; done) | (go_simp; rfl)); intro q hg w_q hbox hb; have BQ := Lib.hid hbox; have GE := Lib.hid ((by rw [hg]; exact Nat.le_refl _) : V.heap.size ≤ q); have HB := Lib.hid hb; have HD := Lib.hid (Kd.C_below h2 hb); have HT1 := Lib.hid (FoldT.below HT.out hb); clear hbox hg hb h2 HT)
    go_wp2_with (first | (go_at_call 69; (with_reducible refine (HO1.out _ HD.out).mono ?_); rintro e w1 ⟨rfl, hb⟩; have n1_ := Lib.hid (below_step HB.out hb); have n2_ := Lib.hid (blk_below BQ.out hb); have n3_ := Lib.hid (FoldT.below HT1.out hb); have n4_ := Lib.hid (Kd.C_below HD.out hb); clear HB BQ HT1 HD; have HB := n1_; have BQ := n2_; have HT1 := n3_; have HD := n4_; clear n1_ n2_ n3_ n4_ hb HO1) | (go_at_call 69; (with_reducible refine (HO2.out _ HD.out).mono ?_); rintro e w2 ⟨rfl, hb⟩; have n1_ := Lib.hid (below_step HB.out hb); have n2_ := Lib.hid (blk_below BQ.out hb); have n3_ := Lib.hid (FoldT.below HT1.out hb); clear HB BQ HT1 HD; have HB := n1_; have BQ := n2_; have HT1 := n3_; clear n1_ n2_ n3_ hb HO2; obtain ⟨c60, c61, c62, c63, c64, c65, f60, f61, f62, f63, f64, f65⟩ := cz6_ BQ.out) | (go_at_call 32; (with_reducible refine (HBas.out _ HT1.out).mono ?_); rintro e w3 ⟨rfl, hb⟩; have n1_ := Lib.hid (below_step HB.out hb); have n2_ := Lib.hid (blk_below BQ.out hb); clear HB BQ HT1 c60 c61 c62 c63 c64 c65 f60 f61 f62 f63 f64 f65; have HB := n1_; have BQ := n2_; clear n1_ n2_ hb; obtain ⟨c60, c61, c62, c63, c64, c65, f60, f61, f62, f63, f64, f65⟩ := cz6_ BQ.out))
    refine bodyPost_ret (results_ctt rfl _ _ q 40 #[.string ⟨#[]⟩, .string ⟨#[]⟩, .int .i64 0, .bool false, .string ⟨#[]⟩, .slice none 0 0] (0, 0) _ rfl (put_six BQ.out _ _ _ _ _ _) Tryz.underlying40 rfl (by kernel_rfl)) rfl ?_
    exact ⟨rfl, below_six HB.out GE.out _ _ _ _ _ _⟩
end Go.Proofs.YtmimipgmhgalaaaGreatDoor.PAll
end
section
namespace Go.Proofs.YtmimipgmhgalaaaGreatDoor.Open
open Go.ChangeShapes Go.WideShapes Go.ChangeAt Go.RowKit Go.Proofs.YtmimipgmhgalaaaGreatDoorW.PrintWords
def Opens {α : Type} (P : Program) (T : TypeId) (d : Kd α) (m : α → Nat) (ok : α → Prop) : Prop :=
  ∀ (H : Type) (enc : TypeId × Value → H) (w : World) (base : Nat) (spare : Nat → Bool) (held : Bool) (fuel : Nat) (cs : List Value) (x : DataW H × List MemPlace),
    DataW.trod enc P w base spare held fuel T cs = some x → ∃ a, d.K w a cs ∧ m a ≤ Rows.uptoBulk x.1 ∧ ((DataW.weights P T x.1).all (· ≤ reachBytes) = true → ok a)
theorem opens_string {P : Program} {T : TypeId} (hu : P.underlying T = some .string) : Opens P T Kd.string (fun s => s.size + 1) (fun s => s.size ≤ 140737488351232) := by
  intro H enc w base spare held fuel cs x h
  obtain ⟨s, rfl, rfl, _⟩ := DataW.trod_string hu h
  refine ⟨s, rfl, ?_, fun hw => ?_⟩
  · simp [Rows.uptoBulk]
  · simp only [DataW.weights, List.all_cons, List.all_nil, Bool.and_true, reachBytes, Array.length_toList] at hw
    exact of_decide_eq_true hw
theorem opens_int {P : Program} {T : TypeId} {k : IntKind} (hu : P.underlying T = some (.int k)) : Opens P T (Kd.int k) (fun _ => 1) (fun n => (Lit.int k n).wf = true) := by
  intro H enc w base spare held fuel cs x h
  obtain ⟨n, rfl, rfl, hw⟩ := DataW.trod_int hu h
  exact ⟨n, rfl, by simp [Rows.uptoBulk], fun _ => hw⟩
theorem opens_bool {P : Program} {T : TypeId} (hu : P.underlying T = some .bool) : Opens P T Kd.bool (fun _ => 1) (fun _ => True) := by
  intro H enc w base spare held fuel cs x h
  have h' : ∃ b, cs = [.bool b] ∧ x = (.lit (.bool b), []) := by
    cases fuel with
    | zero => simp [DataW.trod] at h
    | succ n =>
      unfold DataW.trod at h
      rw [hu] at h
      split at h <;> simp_all
  obtain ⟨b, rfl, rfl⟩ := h'
  exact ⟨b, rfl, by simp [Rows.uptoBulk], fun _ => trivial⟩
theorem cells?_at {w : World} {base : Nat} {a : Addr} {n : Nat} {cs : List Value} (h : w.cells? base a n = some cs) : cs.length = n ∧ ∀ (i : Nat) (u : Value), cs[i]? = some u → w.cell? (a.add i) = some u := by
  unfold World.cells? at h
  split at h
  · refine ⟨by simpa using mapM_some_length h, fun i u hu => ?_⟩
    have hi : i < n := by
      have h1 := (List.getElem?_eq_some_iff.1 hu).1
      have h2 : cs.length = n := by simpa using mapM_some_length h
      omega
    have := mapM_some_get h i i (by simp [hi])
    rw [this, hu]
  · cases h
theorem bulk_all_le {H : Type} {α : Type} {m : α → Nat} : ∀ (l : List α) (ys : List (DataW H)), l.length ≤ ys.length → (∀ (i : Nat) (a : α) (y : DataW H), l[i]? = some a → ys[i]? = some y → m a ≤ Rows.uptoBulk y) → (l.map m).sum ≤ Rows.uptoBulkAll ys
  | [], ys, _, _ => by simp
  | a :: l, [], hl, _ => by simp at hl
  | a :: l, y :: ys, hl, h => by
    have h0 := h 0 a y rfl rfl
    have h1 := bulk_all_le l ys (by simpa using hl) (fun i b z hb hz => h (i + 1) b z (by simpa using hb) (by simpa using hz))
    simp only [List.map_cons, List.sum_cons, Rows.uptoBulkAll]
    omega
theorem weights_all_at {H : Type} (P : Program) (e : TypeId) : ∀ (ys : List (DataW H)), (DataW.weightsAll P e ys).all (· ≤ reachBytes) = true → ∀ (i : Nat) (y : DataW H), ys[i]? = some y → (DataW.weights P e y).all (· ≤ reachBytes) = true
  | [], _, i, y, hy => by simp at hy
  | z :: ys, h, i, y, hy => by
    rw [DataW.weightsAll, List.all_append, Bool.and_eq_true] at h
    cases i with
    | zero => simp at hy; subst hy; exact h.1
    | succ i => exact weights_all_at P e ys h.2 i y (by simpa using hy)
theorem choose_list {α β : Type} {n : Nat} {ys : List β} (hn : ys.length = n) {Q : Nat → β → α → Prop} (h : ∀ (i : Nat) (y : β), ys[i]? = some y → ∃ a, Q i y a) : ∃ l : List α, l.length = n ∧ ∀ (i : Nat) (y : β) (a : α), ys[i]? = some y → l[i]? = some a → Q i y a := by
  induction ys generalizing n Q with
  | nil => exact ⟨[], by simpa using hn, by simp⟩
  | cons y ys ih =>
    obtain ⟨a, ha⟩ := h 0 y rfl
    obtain ⟨l, hl, hq⟩ := ih (n := ys.length) rfl (Q := fun i => Q (i + 1)) (fun i z hz => h (i + 1) z (by simpa using hz))
    refine ⟨a :: l, by simp at hn ⊢; omega, fun i z b hz hb => ?_⟩
    cases i with
    | zero => simp at hz hb; subst hz hb; exact ha
    | succ i => exact hq i z b (by simpa using hz) (by simpa using hb)
theorem opens_slice {α : Type} {P : Program} {T e : TypeId} {d : Kd α} {m : α → Nat} {ok : α → Prop} {B : Nat} (hu : P.underlying T = some (.slice e)) (ho : Opens P e d m ok) (hc : P.cellsOf e = d.sz) (hB : P.bytesOf e = B) :
    Opens P T (Kd.slice e d) (fun l => (l.map m).sum + 1) (fun l => l.length * B ≤ 140737488351232 ∧ ∀ a, a ∈ l → ok a) := by
  intro H enc w base spare held fuel cs x h
  rcases DataW.trod_slice hu h with ⟨rfl, rfl⟩ | ⟨a, len, cap, elems, rest, n, _, rfl, rfl, hb, hl, hm, hlen, hel, hsp, hns⟩
  · refine ⟨[], ⟨none, 0, rfl, Nat.le_refl _, rfl, by simp, fun h => absurd h (by simp)⟩, by simp [Rows.uptoBulk], fun _ => ⟨by simp, by simp⟩⟩
  · have each : ∀ (i : Nat) (y : DataW H × List MemPlace), elems[i]? = some y → ∃ b : α, (∃ c, d.K w b c ∧ c.length = d.sz ∧ ∀ (j : Nat) (u : Value), c[j]? = some u → w.cell? ((a.add (i * d.sz)).add j) = some u) ∧ m b ≤ Rows.uptoBulk y.1 ∧ ((DataW.weights P e y.1).all (· ≤ reachBytes) = true → ok b) := by
      intro i y hy
      have hi : i < len := by rw [← hlen]; exact (List.getElem?_eq_some_iff.1 hy).1
      have h1 := hel i hi
      rw [hy, Option.bind_eq_some_iff] at h1
      obtain ⟨c, hcs, ht⟩ := h1
      obtain ⟨b, hk, hm', hok⟩ := ho H enc w base spare held n c y ht
      rw [hc] at hcs
      obtain ⟨hcl, hcc⟩ := cells?_at hcs
      exact ⟨b, ⟨c, hk, hcl, hcc⟩, hm', hok⟩
    obtain ⟨l, hll, hq⟩ := choose_list hlen each
    have hget : ∀ (i : Nat) (b : α), l[i]? = some b → ∃ y, elems[i]? = some y := fun i b hb => by
      have hi : i < l.length := (List.getElem?_eq_some_iff.1 hb).1
      exact ⟨elems[i]'(by omega), List.getElem?_eq_getElem (by omega)⟩
    refine ⟨l, ⟨some a, cap, by rw [hll], by omega, ⟨rfl, by unfold maxLen at hm; omega, fun _ => ⟨a, rfl, fun j p hp => ?_⟩⟩⟩, ?_, fun hw => ?_⟩
    · obtain ⟨y, hy⟩ := hget j p hp
      obtain ⟨⟨c, hk, hcl, hcc⟩, _⟩ := hq j y p hy hp
      exact ⟨c, hcl, hk, fun i u hu' => by rw [← add_add]; exact hcc i u hu'⟩
    · have h1 := bulk_all_le l (elems.map (·.1)) (by simp; omega) (fun i b y hb hy => by
        simp only [List.getElem?_map, Option.map_eq_some_iff] at hy
        obtain ⟨z, hz, rfl⟩ := hy
        exact (hq i z b hz hb).2.1)
      simp only [Rows.uptoBulk]
      omega
    · rw [DataW.weights, hu] at hw
      simp only [hB] at hw
      simp only [List.all_cons, Bool.and_eq_true, List.all_append, decide_eq_true_eq, List.length_map, hlen] at hw
      refine ⟨?_, fun b hb => ?_⟩
      · rw [hll]
        have := hw.1
        unfold reachBytes at this
        exact Nat.le_trans (Nat.mul_le_mul_right _ (by omega)) this
      · obtain ⟨i, hi⟩ := List.getElem?_of_mem hb
        obtain ⟨y, hy⟩ := hget i b hi
        exact (hq i y b hy hi).2.2 (weights_all_at P e _ hw.2.1 i y.1 (by simp [hy]))
theorem arg_struct {α : Type} {H : Type} {enc : TypeId × Value → H} {P : Program} {W : World} {base b0 : Nat} {r : Reach} {spare : Nat → Bool} {held : Bool} {T : TypeId} {fs : Array Field} {d : Kd α} {m : α → Nat} {ok : α → Prop} {v : Value} {x : DataW H} {ps : List MemPlace}
    (hu : P.underlying T = some (.struct fs)) (ho : Opens P T d m ok) (hv : Value.okWide P W r b0 T v) (h : DataW.Trod enc P W base spare held T v x ps) :
    ∃ (a : α) (cs : List Value), v = .agg cs.toArray ∧ d.K W a cs ∧ m a ≤ Rows.uptoBulk x ∧ ((DataW.weights P T x).all (· ≤ reachBytes) = true → ok a) := by
  obtain ⟨cs, rfl, _⟩ := okWide_struct hu hv
  obtain ⟨fuel, hf⟩ := h
  obtain ⟨a, hK, hm, hok⟩ := ho H enc W base spare held fuel _ _ hf
  exact ⟨a, cs.toList, rfl, hK, hm, hok⟩
theorem trod_lt' {H : Type} {enc : TypeId × Value → H} {P : Program} {W : World} {spare : Nat → Bool} {held : Bool} {T : TypeId} {v : Value} {x : DataW H} {ps : List MemPlace}
    (h : DataW.Trod enc P W 0 spare held T v x ps) : ∀ y ∈ ps, y.block < W.heap.size := by
  obtain ⟨m, hm⟩ := h
  exact DataW.trod_lt m _ _ _ hm
end Go.Proofs.YtmimipgmhgalaaaGreatDoor.Open
end
section
namespace Go.Proofs.YtmimipgmhgalaaaGreatDoor.PAll
open Go.RowKit Go.Proofs.YtmimipgmhgalaaaGreatDoorW.PrintWords Go.Proofs.YtmimipgmhgalaaaGreatDoor.Open
set_option linter.unusedVariables false
set_option linter.unusedSimpArgs false
def ascZ : List Int := (List.range 128).map fun j => (ascT j : Int)
theorem asc_of_reads {W : World} (h : Lib.VarReads Tryz.prog W "unicode.asciiFold" Rows.laid_unicode_asciiFold) : ∀ j, j < 128 → W.cell? ⟨0, j, none⟩ = some (.int .u16 (ascT j : Int)) := by
  obtain ⟨g', t', cs, fuel, p, hg', ht', hvar, hr⟩ := h
  obtain rfl := Option.some.inj ((show Tryz.prog.globalNamed "unicode.asciiFold" = some 0 by kernel_rfl).symm.trans hg')
  obtain rfl := Option.some.inj ((show (Tryz.prog.globals[0]?).map (·.type) = some 175 by kernel_rfl).symm.trans ht')
  rw [show (Rows.laid_unicode_asciiFold : DataW Unit) = Lib.tabData .u16 ascZ by kernel_rfl] at hr
  have hc := Lib.cells_of_tab Tryz.underlying175 Tryz.underlying174 (by kernel_rfl) (by kernel_rfl) hr
  have hT : Lib.TabIs Tryz.prog W "unicode.asciiFold" .u16 ascZ := by unfold Lib.TabIs; rw [hvar, ← hc]
  intro j hj
  have := hT.cell (show Tryz.prog.globalNamed "unicode.asciiFold" = some 0 by kernel_rfl) j (by simp [ascZ]; exact hj)
  rw [show ascZ.getD j 0 = (ascT j : Int) by simp [ascZ, List.getD_eq_getElem?_getD, hj]] at this
  exact this
theorem orb_of_reads {W : World} (h : Lib.VarReads Tryz.prog W "unicode.caseOrbit" Rows.laid_unicode_caseOrbit) : ∃ b o cap sp, W.cell? ⟨1, 0, none⟩ = some (.slice (some ⟨b, o, sp⟩) 94 cap) ∧ W.cell? ⟨b, o + 94, none⟩ = some (.int .u16 966) ∧ W.cell? ⟨b, o + 46, none⟩ = some (.int .u16 837) ∧ W.cell? ⟨b, o + 22, none⟩ = some (.int .u16 452) ∧ W.cell? ⟨b, o + 10, none⟩ = some (.int .u16 197) ∧
    W.cell? ⟨b, o + 16, none⟩ = some (.int .u16 304) ∧ W.cell? ⟨b, o + 20, none⟩ = some (.int .u16 383) ∧ W.cell? ⟨b, o + 18, none⟩ = some (.int .u16 305) ∧ W.cell? ⟨b, o + 20 + 1, none⟩ = some (.int .u16 83) := by
  obtain ⟨g', t', cs, fuel, p, hg', ht', hvar, hr⟩ := h
  obtain rfl := Option.some.inj ((show Tryz.prog.globalNamed "unicode.caseOrbit" = some 1 by kernel_rfl).symm.trans hg')
  obtain rfl := Option.some.inj ((show (Tryz.prog.globals[1]?).map (·.type) = some 176 by kernel_rfl).symm.trans ht')
  rcases DataW.trod_slice Tryz.underlying176 hr with ⟨_, hx⟩ | ⟨a, len, cap, elems, rest, n, _, hcs0, hx, hb, hl, hm, hlen, hel, hsp, hns⟩
  · exact absurd (congrArg Prod.fst hx) (by unfold Rows.laid_unicode_caseOrbit; intro e; cases e)
  have hx1 := congrArg Prod.fst hx
  unfold Rows.laid_unicode_caseOrbit at hx1
  injection hx1 with he _
  have hlen94 : len = 94 := by
    have := congrArg List.length he
    rw [List.length_map, hlen] at this
    exact this.symm
  subst hlen94
  have hcell := World.var?_cell (show Tryz.prog.globalNamed "unicode.caseOrbit" = some 1 by kernel_rfl) hvar 0
  have key : ∀ (i : Nat) (A B : Int), i < 94 → (elems.map (·.1))[i]? = some (.agg ([A, B].map fun z => .lit (.int .u16 z))) → W.cell? ((a.add (i * 2)).add 0) = some (.int .u16 A) ∧ W.cell? ((a.add (i * 2)).add 1) = some (.int .u16 B) := by
    intro i A B hi hd
    have h1 := hel i hi
    rw [List.getElem?_map, Option.map_eq_some_iff] at hd
    obtain ⟨y, hy, hyd⟩ := hd
    rw [hy, Option.bind_eq_some_iff] at h1
    obtain ⟨c, hcs, htr⟩ := h1
    obtain ⟨y1, y2⟩ := y
    dsimp only at hyd
    subst hyd
    rw [show Tryz.prog.cellsOf 178 = 2 by kernel_rfl] at hcs
    have hc := Lib.ints_of_struct (zs := [A, B]) Tryz.underlying178 (by
      intro j f hf
      match j, hf with
      | 0, hf => obtain rfl := Option.some.inj hf; exact ⟨Tryz.underlying174, rfl, by kernel_rfl⟩
      | 1, hf => obtain rfl := Option.some.inj hf; exact ⟨Tryz.underlying174, rfl, by kernel_rfl⟩
      | j + 2, hf => cases hf) (by kernel_rfl) htr
    obtain ⟨_, hcc⟩ := cells?_at hcs
    subst hc
    exact ⟨hcc 0 _ rfl, hcc 1 _ rfl⟩
  rw [← he] at key
  obtain ⟨b, o, sp⟩ := a
  refine ⟨b, o, cap, sp, ?_, ?_⟩
  · rw [hcell, ← Array.getElem?_toList, hcs0]; rfl
  · exact ⟨(key 47 966 981 (by decide) rfl).1, (key 23 837 921 (by decide) rfl).1, (key 11 452 453 (by decide) rfl).1, (key 5 197 229 (by decide) rfl).1, (key 8 304 304 (by decide) rfl).1, (key 10 383 83 (by decide) rfl).1, (key 9 305 305 (by decide) rfl).1, (key 10 383 83 (by decide) rfl).2⟩
theorem foldT_of_laid {W : World} {l : List (String × DataW Unit)} (h : laidMet Tryz.prog l W) (h1 : ("unicode.asciiFold", Rows.laid_unicode_asciiFold) ∈ l) (h2 : ("unicode.caseOrbit", Rows.laid_unicode_caseOrbit) ∈ l) : FoldT W :=
  ⟨asc_of_reads (Lib.laidMet.reads h h1), orb_of_reads (Lib.laidMet.reads h h2)⟩
end Go.Proofs.YtmimipgmhgalaaaGreatDoor.PAll
end
section
namespace Go.Proofs.YtmimipgmhgalaaaGreatDoor.Sha
open Go.RowKit Go.Proofs.YtmimipgmhgalaaaGreatDoorW.PrintWords Go.Proofs.YtmimipgmhgalaaaGreatDoor.Plain Go.Proofs.YtmimipgmhgalaaaGreatDoor.PAll
set_option linter.unusedSimpArgs false
set_option linter.unusedVariables false
def first : List Nat := [0x6a09e667, 0xbb67ae85, 0x3c6ef372, 0xa54ff53a, 0x510e527f, 0x9b05688c, 0x1f83d9ab, 0x5be0cd19]
def toI (p : List Nat) : List Int := p.map (fun x : Nat => (Int.ofNat x : Int))
theorem toI_len (p : List Nat) : (toI p).length = p.length := List.length_map _
theorem toI_getD (p : List Nat) (j : Nat) : (toI p).getD j 0 = ((p.getD j 0 : Nat) : Int) := by
  unfold toI
  rw [List.getD_eq_getElem?_getD, List.getElem?_map, List.getD_eq_getElem?_getD]
  cases p[j]? <;> rfl
theorem bitOr (a i b : Nat) (hb : b < 2 ^ i) : a * 2 ^ i ||| b = a * 2 ^ i + b := by
  rw [Nat.mul_comm, ← Nat.two_pow_add_eq_or_of_lt hb]
def une : List Nat → List Nat × Nat
  | [] => ([], 0)
  | [x] => ([], x)
  | [x, y] => ([x * 4 + y / 16], y % 16)
  | [x, y, z] => ([x * 4 + y / 16, y % 16 * 16 + z / 4], z % 4)
  | x :: y :: z :: t :: r => ((x * 4 + y / 16) :: (y % 16 * 16 + z / 4) :: (z % 4 * 64 + t) :: (une r).1, (une r).2)
def Lt (b : Nat) (l : List Nat) : Prop := ∀ x ∈ l, x < b
theorem Lt.cons {b x : Nat} {l : List Nat} (h : Lt b (x :: l)) : x < b ∧ Lt b l := ⟨h x (by simp), fun y hy => h y (by simp [hy])⟩
theorem Lt.mk {b x : Nat} {l : List Nat} (h : x < b) (t : Lt b l) : Lt b (x :: l) := fun y hy => by
  rcases List.mem_cons.1 hy with rfl | hy
  · exact h
  · exact t y hy
theorem Lt.nil (b : Nat) : Lt b [] := fun x hx => by simp at hx
theorem une_len : ∀ (v : List Nat), (une v).1.length ≤ v.length
  | [] => by simp [une]
  | [x] => by simp [une]
  | [x, y] => by simp [une]
  | [x, y, z] => by simp [une]
  | x :: y :: z :: t :: r => by
    have := une_len r
    simp only [une, List.length_cons]
    omega
def al64 : List Nat := [65, 66, 67, 68, 69, 70, 71, 72, 73, 74, 75, 76, 77, 78, 79, 80, 81, 82, 83, 84, 85, 86, 87, 88, 89, 90, 97, 98, 99, 100, 101, 102, 103, 104, 105, 106, 107, 108, 109, 110, 111, 112, 113, 114, 115, 116, 117, 118, 119, 120, 121, 122, 48, 49, 50, 51, 52, 53, 54, 55, 56, 57, 45, 95]
def value (al : List Nat) (c : Nat) : Nat := al.idxOf c
def bad (al : List Nat) : List Nat → Nat → Option Nat
  | [], _ => none
  | c :: r, i => if c ∈ al then bad al r (i + 1) else some i
theorem good {al : List Nat} : ∀ (s : List Nat) (i : Nat), bad al s i = none → ∀ c ∈ s, c ∈ al
  | [], _, _ => fun c hc => by simp at hc
  | x :: s, i, h => fun c hc => by
    by_cases hx : x ∈ al
    · rw [bad, if_pos hx] at h
      rcases List.mem_cons.1 hc with rfl | hc
      · exact hx
      · exact good s (i + 1) h c hc
    · rw [bad, if_neg hx] at h
      cases h
theorem value_lt {al : List Nat} (s : List Nat) (h : ∀ c ∈ s, c ∈ al) : Lt al.length (s.map (value al)) := by
  intro x hx
  obtain ⟨c, hc, rfl⟩ := List.mem_map.1 hx
  exact List.idxOf_lt_length_iff.2 (h c hc)
def from64 (s : List Nat) : List Nat × Nat × Nat :=
  if s.length > 65536 then ([], 1, 0) else
  match bad al64 s 0 with
  | some i => ([], 20, i)
  | none => if s.length % 4 = 1 then ([], 3, s.length) else if (une (s.map (value al64))).2 = 0 then ((une (s.map (value al64))).1, 0, 0) else ([], 21, s.length - 1)
theorem from64_len (s : List Nat) : (from64 s).1.length ≤ 65536 := by
  unfold from64
  by_cases h1 : s.length > 65536
  · rw [if_pos h1]; simp
  rw [if_neg h1]
  cases hb : bad al64 s 0 with
  | some i => simp
  | none =>
    simp only []
    by_cases h2 : s.length % 4 = 1
    · rw [if_pos h2]; simp
    rw [if_neg h2]
    by_cases h3 : (une (s.map (value al64))).2 = 0
    · rw [if_pos h3]
      have := une_len (s.map (value al64))
      rw [List.length_map] at this
      show (une (s.map (value al64))).1.length ≤ 65536
      omega
    · rw [if_neg h3]; simp
theorem i64_small (x : Nat) (h : x < 4611686018427387904) : IntKind.i64.wrap (x : Int) = (x : Int) := IntWalk.i64_in _ (by omega)
theorem ofInt_64 (x : Nat) (h : x < 4611686018427387904) : (BitVec.ofInt 64 (x : Int)).toNat = x := by simp; omega
theorem or_i64 (a i b : Nat) (hb : b < 2 ^ i) (hs : a * 2 ^ i + b < 4611686018427387904) : bits .or .i64 ((a * 2 ^ i : Nat) : Int) (b : Int) = ((a * 2 ^ i + b : Nat) : Int) := by
  show IntKind.i64.wrap ((BitVec.ofInt 64 ((a * 2 ^ i : Nat) : Int) ||| BitVec.ofInt 64 (b : Int)).toNat : Int) = _
  rw [BitVec.toNat_or, ofInt_64 _ (by omega), ofInt_64 _ (by omega), bitOr a i b hb, i64_small _ hs]
theorem and_i64 (m j : Nat) (hm : m < 4611686018427387904) (hj : 2 ^ j - 1 < 4611686018427387904) : bits .and .i64 (m : Int) ((2 ^ j - 1 : Nat) : Int) = ((m % 2 ^ j : Nat) : Int) := by
  show IntKind.i64.wrap ((BitVec.ofInt 64 (m : Int) &&& BitVec.ofInt 64 ((2 ^ j - 1 : Nat) : Int)).toNat : Int) = _
  rw [BitVec.toNat_and, ofInt_64 _ hm, ofInt_64 _ hj, Nat.and_two_pow_sub_one_eq_mod, i64_small _ (Nat.lt_of_le_of_lt (Nat.mod_le _ _) hm)]
def sN (s : ByteArray) : List Nat := s.data.toList.map UInt8.toNat
theorem sN_len (s : ByteArray) : (sN s).length = s.size := by simp [sN]
theorem sN_all (s : ByteArray) : Lt 256 (sN s) := fun x hx => by
  obtain ⟨c, _, rfl⟩ := List.mem_map.1 hx
  exact c.toNat_lt
theorem bt_sN (s : ByteArray) (i : Nat) (h : i < s.size) : bt s (i : Int) = (((sN s).getD i 0 : Nat) : Int) := by
  have h' : i < (sN s).length := by rw [sN_len]; exact h
  rw [List.getD_eq_getElem?_getD, List.getElem?_eq_getElem h']
  unfold bt
  rw [dif_pos (by simpa using h)]
  simp [sN]
  rfl
theorem rd_toI (p : List Nat) (i : Nat) : rd (toI p) (i : Int) = ((p.getD i 0 : Nat) : Int) := by unfold rd; rw [Int.toNat_natCast, toI_getD]
theorem drop_at {d : List Nat} {p : List Nat} {i x : Nat} (h : p.drop i = x :: d) : i < p.length ∧ p.getD i 0 = x ∧ p.drop (i + 1) = d := by
  have hl : i < p.length := by
    rcases Nat.lt_or_ge i p.length with h1 | h1
    · exact h1
    · rw [List.drop_eq_nil_of_le h1] at h; cases h
  rw [List.drop_eq_getElem_cons hl] at h
  injection h with h1 h2
  exact ⟨hl, by rw [List.getD_eq_getElem?_getD, List.getElem?_eq_getElem hl]; exact h1, h2⟩
theorem drop_none {p : List Nat} {i : Nat} (h : p.drop i = []) : p.length ≤ i := by
  rcases Nat.lt_or_ge i p.length with h1 | h1
  · rw [List.drop_eq_getElem_cons h1] at h; cases h
  · exact h1
def vat (al : List Nat) (c i : Nat) : Int := if c ∈ al then ((i + value al c : Nat) : Int) else -1
theorem vat_cons (al : List Nat) (x c i : Nat) : vat (x :: al) c i = if x = c then (i : Int) else vat al c (i + 1) := by
  unfold vat value
  by_cases h : x = c
  · subst h
    simp
  · have h' : ¬ (c = x) := fun e => h e.symm
    rw [if_neg h]
    simp only [List.mem_cons, h', false_or]
    by_cases hm : c ∈ al
    · rw [if_pos hm, if_pos hm, List.idxOf_cons]
      have : (x == c) = false := by simpa using h
      rw [this]
      simp
      omega
    · rw [if_neg hm, if_neg hm]
theorem place_ev (A : ByteArray) (c : Nat) (hs : A.size ≤ 1000) : ∀ (d : List Nat) (i : Nat), (sN A).drop i = d → Ev (fun k => digest_place.l0 k A (c : Int) (A.size : Int) (i : Int)) (vat d c i)
  | [], i, hd => by
    have h := drop_none hd
    rw [sN_len] at h
    refine Ev.step (f := fun _ => some (-1)) (fun k => ?_) (Ev.eq (Ev.now _) (by simp [vat]))
    simp only [digest_place.l0]
    rw [if_neg (by omega)]
  | x :: d, i, hd => by
    obtain ⟨h1, h2, h3⟩ := drop_at hd
    rw [sN_len] at h1
    have hx := bt_sN A i h1
    rw [h2] at hx
    rw [vat_cons]
    by_cases hc : x = c
    · refine Ev.step (f := fun _ => some (i : Int)) (fun k => ?_) (Ev.eq (Ev.now _) (by rw [if_pos hc]))
      simp only [digest_place.l0]
      rw [if_pos (by omega), if_pos (by omega), if_pos (by omega), if_pos (by rw [hx, hc])]
    · refine Ev.eq (Ev.step (fun k => ?_) (place_ev A c hs d (i + 1) h3)) (by rw [if_neg hc])
      simp only [digest_place.l0]
      rw [if_pos (by omega), if_pos (by omega), if_pos (by omega), if_neg (by rw [hx]; omega), w64 (by omega) (by omega)]
      rfl
theorem values_ev (A s : ByteArray) (hA : A.size ≤ 1000) (hs : s.size ≤ 65536) : ∀ (d : List Nat) (i : Nat) (out : List Nat), (sN s).drop i = d → out.length ≤ i →
    Ev (fun k => digest_values.l0 k A s (toI out) (s.size : Int) (i : Int)) (match bad (sN A) d i with | some j => (([] : List Int), 20, (j : Int)) | none => (toI (out ++ d.map (value (sN A))), 0, 0))
  | [], i, out, hd, ho => by
    have h := drop_none hd
    rw [sN_len] at h
    refine Ev.step (f := fun _ => some (toI out, 0, 0)) (fun k => ?_) (Ev.eq (Ev.now _) (by simp [bad]))
    simp only [digest_values.l0]
    rw [if_neg (by omega)]
  | x :: d, i, out, hd, ho => by
    obtain ⟨h1, h2, h3⟩ := drop_at hd
    rw [sN_len] at h1
    have hx := bt_sN s i h1
    rw [h2] at hx
    have hp := place_ev A x hA (sN A) 0 (by simp)
    by_cases hc : x ∈ sN A
    · have hv : vat (sN A) x 0 = ((value (sN A) x : Nat) : Int) := by unfold vat; rw [if_pos hc, Nat.zero_add]
      rw [hv] at hp
      rw [bad, if_pos hc]
      refine Ev.step (f := fun k => (digest_place.f k A (bt s (i : Int))).bind fun t110 => (if t110 < 0 then (some (([] : List Int), 20, (i : Int))) else (if (toI out).length < 17592186044416 then (digest_values.l0 k A s (toI out ++ [t110]) (s.size : Int) (wrap64 ((i : Int) + 1))) else (none)))) (fun k => ?_) (Ev.bind (a := ((value (sN A) x : Nat) : Int)) (by rw [hx]; exact hp) (Ev.neg (by omega) (Ev.pos (by rw [toI_len]; omega) ?_)))
      · simp only [digest_values.l0]
        rw [if_pos (by omega), if_pos (by omega), if_pos (by omega)]
      · have ih := values_ev A s hA hs d (i + 1) (out ++ [value (sN A) x]) h3 (by simp; omega)
        rw [w64 (by omega) (by omega)]
        have e : toI (out ++ [value (sN A) x]) = toI out ++ [((value (sN A) x : Nat) : Int)] := by simp [toI]
        rw [e] at ih
        refine Ev.eq ih ?_
        rw [List.append_assoc]
        rfl
    · have hv : vat (sN A) x 0 = -1 := by unfold vat; rw [if_neg hc]
      rw [hv] at hp
      rw [bad, if_neg hc]
      refine Ev.step (f := fun k => (digest_place.f k A (bt s (i : Int))).bind fun t110 => (if t110 < 0 then (some (([] : List Int), 20, (i : Int))) else (if (toI out).length < 17592186044416 then (digest_values.l0 k A s (toI out ++ [t110]) (s.size : Int) (wrap64 ((i : Int) + 1))) else (none)))) (fun k => ?_) (Ev.bind (a := (-1 : Int)) (by rw [hx]; exact hp) (Ev.pos (by omega) (Ev.now _)))
      simp only [digest_values.l0]
      rw [if_pos (by omega), if_pos (by omega), if_pos (by omega)]
abbrev A64 : ByteArray := ⟨#[65, 66, 67, 68, 69, 70, 71, 72, 73, 74, 75, 76, 77, 78, 79, 80, 81, 82, 83, 84, 85, 86, 87, 88, 89, 90, 97, 98, 99, 100, 101, 102, 103, 104, 105, 106, 107, 108, 109, 110, 111, 112, 113, 114, 115, 116, 117, 118, 119, 120, 121, 122, 48, 49, 50, 51, 52, 53, 54, 55, 56, 57, 45, 95]⟩
theorem sN64 : sN A64 = al64 := by kernel_rfl
theorem vals_ev (A s : ByteArray) (hA : A.size ≤ 1000) : Ev (fun k => digest_values.f k A s) (if s.size > 65536 then (([] : List Int), 1, 0) else match bad (sN A) (sN s) 0 with | some j => (([] : List Int), 20, (j : Int)) | none => (toI ((sN s).map (value (sN A))), 0, 0)) := by
  unfold digest_values.f
  by_cases h : s.size > 65536
  · exact Ev.pos (by omega) (Ev.eq (Ev.now _) (by rw [if_pos h]))
  · refine Ev.neg (by omega) (Ev.eq (values_ev A s hA (by omega) (sN s) 0 [] (by simp) (by simp)) ?_)
    rw [if_neg h, List.nil_append]
theorem toI_push (out : List Nat) (x : Nat) : toI out ++ [(x : Int)] = toI (out ++ [x]) := by simp [toI]
def fin64 (n : Nat) (out : List Nat) (u : List Nat × Nat) : List Int × Int × Int := if u.2 = 0 then (toI (out ++ u.1), 0, 0) else (([] : List Int), 21, (n : Int) - 1)
theorem step_in (V : List Nat) (i : Nat) (h : i < V.length) (hl : V.length ≤ 65536) : (i : Int) < (V.length : Int) ∧ (0 : Int) ≤ (i : Int) ∧ (i : Int) < ((toI V).length : Int) ∧ wrap64 ((i : Int) + 1) = ((i + 1 : Nat) : Int) := by
  rw [toI_len]
  exact ⟨by omega, by omega, by omega, by rw [w64 (by omega) (by omega)]; rfl⟩
theorem put6 (n x : Nat) (hn : n < 1000) (hx : x < 64) : bits .or .i64 (wrap64 ((n : Int) * 64)) (x : Int) = ((n * 64 + x : Nat) : Int) := by
  rw [w64 (by omega) (by omega)]
  exact or_i64 n 6 x hx (by omega)
theorem q6 : wrap64 (0 + 6) = 6 := (w64 (by decide) (by decide)).trans rfl
theorem q12 : wrap64 (6 + 6) = 12 := (w64 (by decide) (by decide)).trans rfl
theorem q4 : wrap64 (12 - 8) = 4 := (w64 (by decide) (by decide)).trans rfl
theorem q10 : wrap64 (4 + 6) = 10 := (w64 (by decide) (by decide)).trans rfl
theorem q2 : wrap64 (10 - 8) = 2 := (w64 (by decide) (by decide)).trans rfl
theorem q8 : wrap64 (2 + 6) = 8 := (w64 (by decide) (by decide)).trans rfl
theorem q0 : wrap64 (8 - 8) = 0 := (w64 (by decide) (by decide)).trans rfl
theorem m4 : wrap64 (shl .i64 1 4 - 1) = 15 := by kernel_rfl
theorem m2 : wrap64 (shl .i64 1 2 - 1) = 3 := by kernel_rfl
theorem m0 : wrap64 (shl .i64 1 0 - 1) = 0 := by kernel_rfl
theorem shr_nat (X : Int) (j : Nat) (h : j ≤ 64) : shr .i64 X (j : Int) = X / 2 ^ j := by
  unfold shr
  rw [Int.toNat_natCast, Nat.min_eq_left (show j ≤ IntKind.i64.bits from h)]
theorem s0 (s : ByteArray) (out V : List Nat) (i x : Nat) (hi : i < V.length) (hx : V.getD i 0 = x) (hxl : x < 64) (hl : V.length ≤ 65536) (k : Nat) :
    digest_FromBase64.l0 (k + 1) s (toI out) 0 0 (toI V) (V.length : Int) (i : Int) = digest_FromBase64.l0 k s (toI out) (x : Int) 6 (toI V) (V.length : Int) ((i + 1 : Nat) : Int) := by
  obtain ⟨h1, h2, h3, h4⟩ := step_in V i hi hl
  have hp := put6 0 x (by omega) hxl
  rw [Nat.zero_mul, Nat.zero_add] at hp
  simp only [digest_FromBase64.l0, q6]
  rw [if_pos h1, if_pos h2, if_pos h3, if_neg (by decide), rd_toI, hx, h4]
  exact congrArg (fun z => digest_FromBase64.l0 k s (toI out) z 6 (toI V) (V.length : Int) ((i + 1 : Nat) : Int)) hp
theorem s6 (s : ByteArray) (out V : List Nat) (i n x : Nat) (hi : i < V.length) (hx : V.getD i 0 = x) (hn : n < 64) (hxl : x < 64) (hl : V.length ≤ 65536) (ho : out.length < 140737488355328) (k : Nat) :
    digest_FromBase64.l0 (k + 1) s (toI out) (n : Int) 6 (toI V) (V.length : Int) (i : Int) = digest_FromBase64.l0 k s (toI (out ++ [n * 4 + x / 16])) ((x % 16 : Nat) : Int) 4 (toI V) (V.length : Int) ((i + 1 : Nat) : Int) := by
  obtain ⟨h1, h2, h3, h4⟩ := step_in V i hi hl
  have hp := put6 n x (by omega) hxl
  have hs : shr .i64 ((n * 64 + x : Nat) : Int) 4 % 256 = ((n * 4 + x / 16 : Nat) : Int) := by
    have := shr_nat ((n * 64 + x : Nat) : Int) 4 (by decide)
    rw [show ((4 : Nat) : Int) = 4 from rfl] at this
    rw [this]
    omega
  have ha : bits .and .i64 ((n * 64 + x : Nat) : Int) 15 = ((x % 16 : Nat) : Int) := by
    have := and_i64 (n * 64 + x) 4 (by omega) (by decide)
    rw [show (n * 64 + x) % 2 ^ 4 = x % 16 by omega] at this
    exact this
  simp only [digest_FromBase64.l0, q12, q4, m4]
  rw [if_pos h1, if_pos h2, if_pos h3, if_pos (by decide), if_pos (by decide), if_pos (by rw [toI_len]; omega), rd_toI, hx, h4, hp, hs, ha, toI_push]
theorem s4 (s : ByteArray) (out V : List Nat) (i n x : Nat) (hi : i < V.length) (hx : V.getD i 0 = x) (hn : n < 16) (hxl : x < 64) (hl : V.length ≤ 65536) (ho : out.length < 140737488355328) (k : Nat) :
    digest_FromBase64.l0 (k + 1) s (toI out) (n : Int) 4 (toI V) (V.length : Int) (i : Int) = digest_FromBase64.l0 k s (toI (out ++ [n * 16 + x / 4])) ((x % 4 : Nat) : Int) 2 (toI V) (V.length : Int) ((i + 1 : Nat) : Int) := by
  obtain ⟨h1, h2, h3, h4⟩ := step_in V i hi hl
  have hp := put6 n x (by omega) hxl
  have hs : shr .i64 ((n * 64 + x : Nat) : Int) 2 % 256 = ((n * 16 + x / 4 : Nat) : Int) := by
    have := shr_nat ((n * 64 + x : Nat) : Int) 2 (by decide)
    rw [show ((2 : Nat) : Int) = 2 from rfl] at this
    rw [this]
    omega
  have ha : bits .and .i64 ((n * 64 + x : Nat) : Int) 3 = ((x % 4 : Nat) : Int) := by
    have := and_i64 (n * 64 + x) 2 (by omega) (by decide)
    rw [show (n * 64 + x) % 2 ^ 2 = x % 4 by omega] at this
    exact this
  simp only [digest_FromBase64.l0, q10, q2, m2]
  rw [if_pos h1, if_pos h2, if_pos h3, if_pos (by decide), if_pos (by decide), if_pos (by rw [toI_len]; omega), rd_toI, hx, h4, hp, hs, ha, toI_push]
theorem s2 (s : ByteArray) (out V : List Nat) (i n x : Nat) (hi : i < V.length) (hx : V.getD i 0 = x) (hn : n < 4) (hxl : x < 64) (hl : V.length ≤ 65536) (ho : out.length < 140737488355328) (k : Nat) :
    digest_FromBase64.l0 (k + 1) s (toI out) (n : Int) 2 (toI V) (V.length : Int) (i : Int) = digest_FromBase64.l0 k s (toI (out ++ [n * 64 + x])) 0 0 (toI V) (V.length : Int) ((i + 1 : Nat) : Int) := by
  obtain ⟨h1, h2, h3, h4⟩ := step_in V i hi hl
  have hp := put6 n x (by omega) hxl
  have hs : shr .i64 ((n * 64 + x : Nat) : Int) 0 % 256 = ((n * 64 + x : Nat) : Int) := by
    have := shr_nat ((n * 64 + x : Nat) : Int) 0 (by decide)
    rw [show ((0 : Nat) : Int) = 0 from rfl] at this
    rw [this]
    omega
  have ha : bits .and .i64 ((n * 64 + x : Nat) : Int) 0 = (0 : Int) := by
    have := and_i64 (n * 64 + x) 0 (by omega) (by decide)
    rw [show (n * 64 + x) % 2 ^ 0 = 0 by omega] at this
    exact this
  simp only [digest_FromBase64.l0, q8, q0, m0]
  rw [if_pos h1, if_pos h2, if_pos h3, if_pos (by decide), if_pos (by decide), if_pos (by rw [toI_len]; omega), rd_toI, hx, h4, hp, hs, ha, toI_push]
theorem sEnd (s : ByteArray) (out V : List Nat) (i n : Nat) (h : Int) (hi : V.length ≤ i) (hs : s.size ≤ 65536) (k : Nat) :
    digest_FromBase64.l0 (k + 1) s (toI out) (n : Int) h (toI V) (V.length : Int) (i : Int) = some (fin64 s.size out ([], n)) := by
  simp only [digest_FromBase64.l0]
  rw [if_neg (by omega)]
  unfold fin64
  by_cases hn : n = 0
  · rw [if_pos (by omega), if_pos hn, List.append_nil]
  · rw [if_neg (by omega), if_neg hn, w64 (by omega) (by omega)]
theorem un64_ev (s : ByteArray) (V : List Nat) (hs : s.size ≤ 65536) (hl : V.length ≤ 65536) (hV : Lt 64 V) : ∀ (d : List Nat) (i : Nat) (out : List Nat), V.drop i = d → out.length ≤ i →
    Ev (fun k => digest_FromBase64.l0 k s (toI out) 0 0 (toI V) (V.length : Int) (i : Int)) (fin64 s.size out (une d))
  | [], i, out, hd, ho => Ev.step (f := fun _ => some (fin64 s.size out ([], 0))) (fun k => sEnd s out V i 0 0 (drop_none hd) hs k) (Ev.now _)
  | [x], i, out, hd, ho => by
    obtain ⟨a1, a2, a3⟩ := drop_at hd
    have ax : x < 64 := a2 ▸ hV _ (by rw [List.getD_eq_getElem?_getD, List.getElem?_eq_getElem a1]; exact List.getElem_mem a1)
    exact Ev.step (fun k => s0 s out V i x a1 a2 ax hl k) (Ev.step (f := fun _ => some (fin64 s.size out ([], x))) (fun k => sEnd s out V (i + 1) x 6 (drop_none a3) hs k) (Ev.now _))
  | [x, y], i, out, hd, ho => by
    obtain ⟨a1, a2, a3⟩ := drop_at hd
    obtain ⟨b1, b2, b3⟩ := drop_at a3
    have ax : x < 64 := a2 ▸ hV _ (by rw [List.getD_eq_getElem?_getD, List.getElem?_eq_getElem a1]; exact List.getElem_mem a1)
    have bx : y < 64 := b2 ▸ hV _ (by rw [List.getD_eq_getElem?_getD, List.getElem?_eq_getElem b1]; exact List.getElem_mem b1)
    refine Ev.eq (Ev.step (fun k => s0 s out V i x a1 a2 ax hl k) (Ev.step (fun k => s6 s out V (i + 1) x y b1 b2 ax bx hl (by omega) k) (Ev.step (f := fun _ => some (fin64 s.size (out ++ [x * 4 + y / 16]) ([], y % 16))) (fun k => sEnd s _ V (i + 1 + 1) (y % 16) 4 (drop_none b3) hs k) (Ev.now _)))) ?_
    simp only [fin64, une, List.append_assoc, List.cons_append, List.nil_append, List.append_nil]
    rfl
  | [x, y, z], i, out, hd, ho => by
    obtain ⟨a1, a2, a3⟩ := drop_at hd
    obtain ⟨b1, b2, b3⟩ := drop_at a3
    obtain ⟨c1, c2, c3⟩ := drop_at b3
    have ax : x < 64 := a2 ▸ hV _ (by rw [List.getD_eq_getElem?_getD, List.getElem?_eq_getElem a1]; exact List.getElem_mem a1)
    have bx : y < 64 := b2 ▸ hV _ (by rw [List.getD_eq_getElem?_getD, List.getElem?_eq_getElem b1]; exact List.getElem_mem b1)
    have cx : z < 64 := c2 ▸ hV _ (by rw [List.getD_eq_getElem?_getD, List.getElem?_eq_getElem c1]; exact List.getElem_mem c1)
    refine Ev.eq (Ev.step (fun k => s0 s out V i x a1 a2 ax hl k) (Ev.step (fun k => s6 s out V (i + 1) x y b1 b2 ax bx hl (by omega) k) (Ev.step (fun k => s4 s (out ++ [x * 4 + y / 16]) V (i + 1 + 1) (y % 16) z c1 c2 (by omega) cx hl (by simp; omega) k)
      (Ev.step (f := fun _ => some (fin64 s.size (out ++ [x * 4 + y / 16] ++ [y % 16 * 16 + z / 4]) ([], z % 4))) (fun k => sEnd s _ V (i + 1 + 1 + 1) (z % 4) 2 (drop_none c3) hs k) (Ev.now _))))) ?_
    simp only [fin64, une, List.append_assoc, List.cons_append, List.nil_append, List.append_nil]
    rfl
  | x :: y :: z :: t :: r, i, out, hd, ho => by
    obtain ⟨a1, a2, a3⟩ := drop_at hd
    obtain ⟨b1, b2, b3⟩ := drop_at a3
    obtain ⟨c1, c2, c3⟩ := drop_at b3
    obtain ⟨d1, d2, d3⟩ := drop_at c3
    have ax : x < 64 := a2 ▸ hV _ (by rw [List.getD_eq_getElem?_getD, List.getElem?_eq_getElem a1]; exact List.getElem_mem a1)
    have bx : y < 64 := b2 ▸ hV _ (by rw [List.getD_eq_getElem?_getD, List.getElem?_eq_getElem b1]; exact List.getElem_mem b1)
    have cx : z < 64 := c2 ▸ hV _ (by rw [List.getD_eq_getElem?_getD, List.getElem?_eq_getElem c1]; exact List.getElem_mem c1)
    have dx : t < 64 := d2 ▸ hV _ (by rw [List.getD_eq_getElem?_getD, List.getElem?_eq_getElem d1]; exact List.getElem_mem d1)
    have ih := un64_ev s V hs hl hV r (i + 1 + 1 + 1 + 1) (out ++ [x * 4 + y / 16] ++ [y % 16 * 16 + z / 4] ++ [z % 4 * 64 + t]) d3 (by simp; omega)
    refine Ev.eq (Ev.step (fun k => s0 s out V i x a1 a2 ax hl k) (Ev.step (fun k => s6 s out V (i + 1) x y b1 b2 ax bx hl (by omega) k) (Ev.step (fun k => s4 s (out ++ [x * 4 + y / 16]) V (i + 1 + 1) (y % 16) z c1 c2 (by omega) cx hl (by simp; omega) k)
      (Ev.step (fun k => s2 s (out ++ [x * 4 + y / 16] ++ [y % 16 * 16 + z / 4]) V (i + 1 + 1 + 1) (z % 4) t d1 d2 (by omega) dx hl (by simp; omega) k) ih)))) ?_
    simp only [fin64, une, List.append_assoc, List.cons_append, List.nil_append, List.append_nil]
    rfl
def tri (r : List Nat × Nat × Nat) : List Int × Int × Int := (toI r.1, (r.2.1 : Int), (r.2.2 : Int))
theorem from64_ev (s : ByteArray) : Ev (fun k => digest_FromBase64.f k s) (tri (from64 (sN s))) := by
  unfold digest_FromBase64.f
  refine Ev.bind (vals_ev A64 s (by decide)) ?_
  rw [sN64]
  unfold from64
  rw [sN_len]
  by_cases h : s.size > 65536
  · rw [if_pos h, if_pos h]
    exact Ev.neg (by decide) (Ev.now _)
  · rw [if_neg h, if_neg h]
    cases hb : bad al64 (sN s) 0 with
    | some j => exact Ev.neg (by simp) (Ev.now _)
    | none =>
      have hl : ((sN s).map (value al64)).length = s.size := by rw [List.length_map, sN_len]
      simp only []
      refine Ev.pos (by simp) ?_
      by_cases h4 : s.size % 4 = 1
      · rw [if_pos h4]
        exact Ev.pos (by rw [toI_len, hl]; omega) (Ev.now _)
      · rw [if_neg h4]
        refine Ev.neg (by rw [toI_len, hl]; omega) ?_
        have hv : Lt 64 ((sN s).map (value al64)) := value_lt _ (good _ 0 hb)
        have hh := un64_ev s ((sN s).map (value al64)) (by omega) (by rw [hl]; omega) hv ((sN s).map (value al64)) 0 [] (by simp) (by simp)
        rw [toI_len]
        refine Ev.eq hh ?_
        unfold fin64
        by_cases h0 : (une ((sN s).map (value al64))).2 = 0
        · rw [if_pos h0, if_pos h0, List.nil_append]
          rfl
        · rw [if_neg h0, if_neg h0]
          have : s.size ≠ 0 := fun e => h0 (by
            have : (sN s).map (value al64) = [] := List.eq_nil_of_length_eq_zero (by rw [hl, e])
            rw [this]; rfl)
          show (([] : List Int), (21 : Int), (s.size : Int) - 1) = _
          unfold tri
          simp only []
          rw [show ((s.size - 1 : Nat) : Int) = (s.size : Int) - 1 by omega]
          rfl
end Go.Proofs.YtmimipgmhgalaaaGreatDoor.Sha
end
section
namespace Go.Proofs.YtmimipgmhgalaaaGreatDoor.Sha
open Go.RowKit Go.Proofs.YtmimipgmhgalaaaGreatDoorW.PrintWords Go.Proofs.YtmimipgmhgalaaaGreatDoor.Plain Go.Proofs.YtmimipgmhgalaaaGreatDoor.PAll
set_option linter.unusedSimpArgs false
set_option linter.unusedVariables false
def mapPl (c : Nat) : Nat := if c = 43 then 45 else if c = 47 then 95 else c
def okc (c : Nat) : Prop := c ≠ 45 ∧ c ≠ 95 ∧ mapPl c ∈ al64
instance (c : Nat) : Decidable (okc c) := inferInstanceAs (Decidable (_ ∧ _ ∧ _))
def v6 (c : Nat) : Nat := value al64 (mapPl c)
def sixI (c : Nat) : Int := if okc c then (v6 c : Int) else -1
theorem six_all : ∀ c : Nat, c < 256 → wicketref11_six.f 5 (c : Int) = some (sixI c) := by decide +kernel
theorem six_ev (c : Nat) (h : c < 256) : Ev (fun k => wicketref11_six.f k (c : Int)) (sixI c) := Ev.of (fun k => wicketref11_six.mono _ k) (six_all c h)
theorem v6_lt (c : Nat) (h : okc c) : v6 c < 64 := by
  have := value_lt (al := al64) [mapPl c] (by simpa using h.2.2)
  exact this (v6 c) (by simp [v6])
def bits6 (v : Nat) : List Nat := [v / 32 % 2, v / 16 % 2, v / 8 % 2, v / 4 % 2, v / 2 % 2, v / 1 % 2]
theorem bitq (v j : Nat) (hv : v < 64) : Int.tmod (wrap64 (Int.tdiv (v : Int) (j : Int))) 2 = ((v / j % 2 : Nat) : Int) := by
  have h1 : v / j ≤ v := Nat.div_le_self _ _
  rw [← Int.ofNat_tdiv]
  generalize v / j = q at h1 ⊢
  rw [w64 (by omega) (by omega)]
  exact (Int.ofNat_tmod q 2).symm
theorem l2_ev {r : ByteArray × Bool} (s : ByteArray) (n : Int) (acc : List Nat) (i : Int) (v : Nat) (hv : v < 64) (ha : acc.length < 1000000) (h : Ev (fun k => wicketref11_decoded.l1 k s n (toI (acc ++ bits6 v)) (wrap64 (i + 1))) r) : Ev (fun k => wicketref11_decoded.l2 k s n (toI acc) i (v : Int) 32) r := by
  have b32 := bitq v 32 hv
  have b16 := bitq v 16 hv
  have b8 := bitq v 8 hv
  have b4 := bitq v 4 hv
  have b2 := bitq v 2 hv
  have b1 := bitq v 1 hv
  have hl (l : List Nat) (hl : l.length < 6) : (toI (acc ++ l)).length < 17592186044416 := by rw [toI_len, List.length_append]; omega
  have e (l : List Nat) (x : Nat) : toI (acc ++ l) ++ [(x : Int)] = toI (acc ++ (l ++ [x])) := by rw [toI_push, List.append_assoc]
  rw [← List.append_nil acc]
  refine Ev.step (f := fun k => wicketref11_decoded.l2 k s n (toI (acc ++ [v / 32 % 2])) i (v : Int) 16) (fun k => ?_) ?_
  · simp only [wicketref11_decoded.l2]
    rw [if_pos (by decide), if_neg (by decide), if_pos (hl [] (by simp)), show Int.tmod (wrap64 (Int.tdiv (v : Int) 32)) 2 = _ from b32, e, show wrap64 (Int.tdiv 32 2) = 16 from by kernel_rfl]
    rfl
  refine Ev.step (f := fun k => wicketref11_decoded.l2 k s n (toI (acc ++ [v / 32 % 2, v / 16 % 2])) i (v : Int) 8) (fun k => ?_) ?_
  · simp only [wicketref11_decoded.l2]
    rw [if_pos (by decide), if_neg (by decide), if_pos (hl _ (by simp)), show Int.tmod (wrap64 (Int.tdiv (v : Int) 16)) 2 = _ from b16, e, show wrap64 (Int.tdiv 16 2) = 8 from by kernel_rfl]
    rfl
  refine Ev.step (f := fun k => wicketref11_decoded.l2 k s n (toI (acc ++ [v / 32 % 2, v / 16 % 2, v / 8 % 2])) i (v : Int) 4) (fun k => ?_) ?_
  · simp only [wicketref11_decoded.l2]
    rw [if_pos (by decide), if_neg (by decide), if_pos (hl _ (by simp)), show Int.tmod (wrap64 (Int.tdiv (v : Int) 8)) 2 = _ from b8, e, show wrap64 (Int.tdiv 8 2) = 4 from by kernel_rfl]
    rfl
  refine Ev.step (f := fun k => wicketref11_decoded.l2 k s n (toI (acc ++ [v / 32 % 2, v / 16 % 2, v / 8 % 2, v / 4 % 2])) i (v : Int) 2) (fun k => ?_) ?_
  · simp only [wicketref11_decoded.l2]
    rw [if_pos (by decide), if_neg (by decide), if_pos (hl _ (by simp)), show Int.tmod (wrap64 (Int.tdiv (v : Int) 4)) 2 = _ from b4, e, show wrap64 (Int.tdiv 4 2) = 2 from by kernel_rfl]
    rfl
  refine Ev.step (f := fun k => wicketref11_decoded.l2 k s n (toI (acc ++ [v / 32 % 2, v / 16 % 2, v / 8 % 2, v / 4 % 2, v / 2 % 2])) i (v : Int) 1) (fun k => ?_) ?_
  · simp only [wicketref11_decoded.l2]
    rw [if_pos (by decide), if_neg (by decide), if_pos (hl _ (by simp)), show Int.tmod (wrap64 (Int.tdiv (v : Int) 2)) 2 = _ from b2, e, show wrap64 (Int.tdiv 2 2) = 1 from by kernel_rfl]
    rfl
  refine Ev.step (f := fun k => wicketref11_decoded.l2 k s n (toI (acc ++ bits6 v)) i (v : Int) 0) (fun k => ?_) ?_
  · simp only [wicketref11_decoded.l2]
    rw [if_pos (by decide), if_neg (by decide), if_pos (hl _ (by simp)), show Int.tmod (wrap64 (Int.tdiv (v : Int) 1)) 2 = _ from b1, e, show wrap64 (Int.tdiv 1 2) = 0 from by kernel_rfl]
    rfl
  refine Ev.step (f := fun k => wicketref11_decoded.l1 k s n (toI (acc ++ bits6 v)) (wrap64 (i + 1))) (fun k => ?_) h
  simp only [wicketref11_decoded.l2]
  rw [if_neg (by decide)]
theorem at_take {s : ByteArray} {n i x : Nat} {d : List Nat} (hn : n ≤ s.size) (h : ((sN s).take n).drop i = x :: d) : i < n ∧ bt s (i : Int) = (x : Int) ∧ x < 256 ∧ ((sN s).take n).drop (i + 1) = d := by
  obtain ⟨h1, h2, h3⟩ := drop_at h
  rw [List.length_take, sN_len] at h1
  have hi : i < n := by omega
  have h4 : (sN s).getD i 0 = x := by rw [← h2, List.getD_eq_getElem?_getD, List.getD_eq_getElem?_getD, List.getElem?_take, if_pos hi]
  refine ⟨hi, by rw [bt_sN s i (by omega), h4], ?_, h3⟩
  have : x ∈ (sN s).take n := by
    have : x ∈ ((sN s).take n).drop i := by rw [h]; simp
    exact List.mem_of_mem_drop this
  exact sN_all s x (List.mem_of_mem_take this)
theorem l1_good {r : ByteArray × Bool} (s : ByteArray) (n : Nat) (hn : n ≤ s.size) (hs : s.size ≤ 65536) : ∀ (d : List Nat) (i : Nat) (acc : List Nat), ((sN s).take n).drop i = d → acc.length = 6 * i → i + d.length ≤ n → (∀ c ∈ d, okc c) →
    Ev (fun k => wicketref11_decoded.l3 k (toI (acc ++ d.flatMap fun c => bits6 (v6 c))) ([] : List Int)) r → Ev (fun k => wicketref11_decoded.l1 k s (n : Int) (toI acc) (i : Int)) r
  | [], i, acc, hd, ha, hi, hok, h => by
    have h1 := drop_none hd
    rw [List.length_take, sN_len] at h1
    refine Ev.step (f := fun k => wicketref11_decoded.l3 k (toI acc) ([] : List Int)) (fun k => ?_) (by simpa using h)
    simp only [wicketref11_decoded.l1]
    rw [if_neg (by omega)]
  | x :: d, i, acc, hd, ha, hi, hok, h => by
    obtain ⟨h1, h2, h3, h4⟩ := at_take hn hd
    have hx := hok x (by simp)
    have hv := v6_lt x hx
    have h6 : sixI x = (v6 x : Int) := if_pos hx
    refine Ev.step (f := fun k => (wicketref11_six.f k (x : Int)).bind fun t441 => (if t441 < 0 then (some ((⟨#[]⟩ : ByteArray), false)) else (wicketref11_decoded.l2 k s (n : Int) (toI acc) (i : Int) t441 32))) (fun k => ?_) ?_
    · simp only [wicketref11_decoded.l1]
      rw [if_pos (by omega), if_pos (by omega), if_pos (by omega), h2]
    · refine Ev.bind (six_ev x h3) ?_
      rw [h6]
      refine Ev.neg (by omega) (l2_ev s _ acc _ _ hv (by omega) ?_)
      rw [w64 (by omega) (by omega)]
      refine l1_good s n hn hs d (i + 1) _ h4 (by rw [List.length_append, ha]; simp [bits6]; omega) (by simp only [List.length_cons] at hi; omega) (fun c hc => hok c (by simp [hc])) ?_
      rw [List.append_assoc]
      simpa using h
theorem l1_bad (s : ByteArray) (n : Nat) (hn : n ≤ s.size) (hs : s.size ≤ 65536) : ∀ (d : List Nat) (i : Nat) (acc : List Nat), ((sN s).take n).drop i = d → acc.length = 6 * i → (∃ c ∈ d, ¬ okc c) →
    Ev (fun k => wicketref11_decoded.l1 k s (n : Int) (toI acc) (i : Int)) ((⟨#[]⟩ : ByteArray), false)
  | [], i, acc, hd, ha, hok => by obtain ⟨c, hc, _⟩ := hok; cases hc
  | x :: d, i, acc, hd, ha, hok => by
    obtain ⟨h1, h2, h3, h4⟩ := at_take hn hd
    refine Ev.step (f := fun k => (wicketref11_six.f k (x : Int)).bind fun t441 => (if t441 < 0 then (some ((⟨#[]⟩ : ByteArray), false)) else (wicketref11_decoded.l2 k s (n : Int) (toI acc) (i : Int) t441 32))) (fun k => ?_) ?_
    · simp only [wicketref11_decoded.l1]
      rw [if_pos (by omega), if_pos (by omega), if_pos (by omega), h2]
    refine Ev.bind (six_ev x h3) ?_
    by_cases hx : okc x
    · have hv := v6_lt x hx
      have h6 : sixI x = (v6 x : Int) := if_pos hx
      rw [h6]
      refine Ev.neg (by omega) (l2_ev s _ acc _ _ hv (by omega) ?_)
      rw [w64 (by omega) (by omega)]
      refine l1_bad s n hn hs d (i + 1) _ h4 (by rw [List.length_append, ha]; simp [bits6]; omega) ?_
      obtain ⟨c, hc, hb⟩ := hok
      rcases List.mem_cons.1 hc with rfl | hc
      · exact absurd hx hb
      · exact ⟨c, hc, hb⟩
    · have h6 : sixI x = -1 := if_neg hx
      rw [h6]
      exact Ev.pos (by decide) (Ev.now _)
def packs : List Nat → List Nat × List Nat
  | b0 :: b1 :: b2 :: b3 :: b4 :: b5 :: b6 :: b7 :: r => ((2 * (2 * (2 * (2 * (2 * (2 * (2 * b0 + b1) + b2) + b3) + b4) + b5) + b6) + b7) :: (packs r).1, (packs r).2)
  | l => ([], l)
theorem dbl (c b : Nat) (hc : c < 100000) (hb : b < 2) : wrap64 (wrap64 (2 * (c : Int)) + (b : Int)) = ((2 * c + b : Nat) : Int) := by
  rw [w64 (x := 2 * (c : Int)) (by omega) (by omega), w64 (by omega) (by omega)]
  omega
theorem l4_step {r : ByteArray × Bool} (bits out : List Nat) (c j b : Nat) (hc : c < 100000) (hb : b < 2) (hj : j < 8) (hl : j < bits.length) (hm : bits.length < 1000000) (hg : bits.getD j 0 = b) (h : Ev (fun k => wicketref11_decoded.l4 k (toI bits) (toI out) ((2 * c + b : Nat) : Int) ((j + 1 : Nat) : Int)) r) :
    Ev (fun k => wicketref11_decoded.l4 k (toI bits) (toI out) (c : Int) (j : Int)) r := by
  refine Ev.step (fun k => ?_) h
  simp only [wicketref11_decoded.l4]
  rw [if_pos (by omega), if_pos (by omega), if_pos (by rw [toI_len]; omega), rd_toI, hg, dbl c b hc hb, w64 (by omega) (by omega)]
  rfl
theorem l4_ev {r : ByteArray × Bool} (b0 b1 b2 b3 b4 b5 b6 b7 : Nat) (l out : List Nat) (h0 : b0 < 2) (h1 : b1 < 2) (h2 : b2 < 2) (h3 : b3 < 2) (h4 : b4 < 2) (h5 : b5 < 2) (h6 : b6 < 2) (h7 : b7 < 2) (hm : l.length < 900000) (ho : out.length < 1000000)
    (h : Ev (fun k => wicketref11_decoded.l3 k (toI l) (toI (out ++ [2 * (2 * (2 * (2 * (2 * (2 * (2 * b0 + b1) + b2) + b3) + b4) + b5) + b6) + b7]))) r) :
    Ev (fun k => wicketref11_decoded.l4 k (toI (b0 :: b1 :: b2 :: b3 :: b4 :: b5 :: b6 :: b7 :: l)) (toI out) 0 0) r := by
  have hlen : (b0 :: b1 :: b2 :: b3 :: b4 :: b5 :: b6 :: b7 :: l).length = l.length + 8 := rfl
  refine l4_step _ _ 0 0 b0 (by omega) h0 (by omega) (by omega) (by omega) rfl ?_
  refine l4_step _ _ _ 1 b1 (by omega) h1 (by omega) (by omega) (by omega) rfl ?_
  refine l4_step _ _ _ 2 b2 (by omega) h2 (by omega) (by omega) (by omega) rfl ?_
  refine l4_step _ _ _ 3 b3 (by omega) h3 (by omega) (by omega) (by omega) rfl ?_
  refine l4_step _ _ _ 4 b4 (by omega) h4 (by omega) (by omega) (by omega) rfl ?_
  refine l4_step _ _ _ 5 b5 (by omega) h5 (by omega) (by omega) (by omega) rfl ?_
  refine l4_step _ _ _ 6 b6 (by omega) h6 (by omega) (by omega) (by omega) rfl ?_
  refine l4_step _ _ _ 7 b7 (by omega) h7 (by omega) (by omega) (by omega) rfl ?_
  refine Ev.step (fun k => ?_) h
  simp only [wicketref11_decoded.l4]
  rw [if_neg (by omega), if_pos (by rw [toI_len]; omega), if_pos (by rw [toI_len]; omega), ← toI_push]
  have e : ((2 * (2 * (2 * (2 * (2 * (2 * (2 * (2 * 0 + b0) + b1) + b2) + b3) + b4) + b5) + b6) + b7 : Nat) : Int) % 256 = ((2 * (2 * (2 * (2 * (2 * (2 * (2 * b0 + b1) + b2) + b3) + b4) + b5) + b6) + b7 : Nat) : Int) := by omega
  rw [e]
  rfl
def fin (out rest : List Nat) : ByteArray × Bool := if ∀ b ∈ rest, b = 0 then (strOfNums (toI out), decide (rest.length < 6)) else ((⟨#[]⟩ : ByteArray), false)
theorem l5_ev (out rest : List Nat) (hr : rest.length < 100000) : ∀ (d : List Nat) (i : Nat), rest.drop i = d → i ≤ rest.length → Ev (fun k => wicketref11_decoded.l5 k (toI rest) (toI out) (i : Int)) (if ∀ b ∈ d, b = 0 then (strOfNums (toI out), decide (rest.length < 6)) else ((⟨#[]⟩ : ByteArray), false))
  | [], i, hd, hi => by
    have h1 := drop_none hd
    refine Ev.step (f := fun _ => some (strOfNums (toI out), decide (((toI rest).length : Int) < 6))) (fun k => ?_) (Ev.eq (Ev.now _) ?_)
    · simp only [wicketref11_decoded.l5]
      rw [if_neg (by rw [toI_len]; omega)]
    · rw [if_pos (by simp), toI_len]
      congr 1
      rw [decide_eq_decide]; omega
  | x :: d, i, hd, hi => by
    obtain ⟨h1, h2, h3⟩ := drop_at hd
    by_cases hx : x = 0
    · refine Ev.step (f := fun k => wicketref11_decoded.l5 k (toI rest) (toI out) ((i + 1 : Nat) : Int)) (fun k => ?_) (Ev.eq (l5_ev out rest hr d (i + 1) h3 (by omega)) ?_)
      · simp only [wicketref11_decoded.l5]
        rw [if_pos (by rw [toI_len]; omega), if_pos (by omega), rd_toI, h2, if_pos (by omega), w64 (by omega) (by omega)]
        rfl
      · simp [hx]
    · refine Ev.step (f := fun _ => some ((⟨#[]⟩ : ByteArray), false)) (fun k => ?_) (Ev.eq (Ev.now _) ?_)
      · simp only [wicketref11_decoded.l5]
        rw [if_pos (by rw [toI_len]; omega), if_pos (by omega), rd_toI, h2, if_neg (by omega)]
      · rw [if_neg (fun h => hx (h x (by simp)))]
theorem uncons {n : Nat} {l : List Nat} (h : n + 1 ≤ l.length) : ∃ x r, l = x :: r ∧ n ≤ r.length := by
  match l, h with
  | x :: r, h => exact ⟨x, r, rfl, by simpa using h⟩
theorem packs_cons (b0 b1 b2 b3 b4 b5 b6 b7 : Nat) (r : List Nat) : packs (b0 :: b1 :: b2 :: b3 :: b4 :: b5 :: b6 :: b7 :: r) = ((2 * (2 * (2 * (2 * (2 * (2 * (2 * b0 + b1) + b2) + b3) + b4) + b5) + b6) + b7) :: (packs r).1, (packs r).2) := rfl
theorem bit8 (b0 b1 b2 b3 b4 b5 b6 b7 c : Nat) (r a b : List Nat) (h : 2 * (2 * (2 * (2 * (2 * (2 * (2 * b0 + b1) + b2) + b3) + b4) + b5) + b6) + b7 = c) (hr : packs r = (a, b)) : packs (b0 :: b1 :: b2 :: b3 :: b4 :: b5 :: b6 :: b7 :: r) = (c :: a, b) := by
  rw [packs_cons, h, hr]
theorem l3_ev : ∀ (m : Nat) (bits out : List Nat), bits.length ≤ m → bits.length < 900000 → (∀ b ∈ bits, b < 2) → out.length + bits.length < 1000000 → Ev (fun k => wicketref11_decoded.l3 k (toI bits) (toI out)) (fin (out ++ (packs bits).1) (packs bits).2) := by
  intro m
  induction m using Nat.strongRecOn with
  | ind m ih =>
    intro bits out hm hl hb ho
    by_cases h8 : bits.length < 8
    · have hp : packs bits = ([], bits) := by
        match bits, h8 with
        | [], _ => rfl
        | [_], _ => rfl
        | [_, _], _ => rfl
        | [_, _, _], _ => rfl
        | [_, _, _, _], _ => rfl
        | [_, _, _, _, _], _ => rfl
        | [_, _, _, _, _, _], _ => rfl
        | [_, _, _, _, _, _, _], _ => rfl
        | _ :: _ :: _ :: _ :: _ :: _ :: _ :: _ :: _, h => simp at h; omega
      rw [hp, List.append_nil]
      refine Ev.step (f := fun k => wicketref11_decoded.l5 k (toI bits) (toI out) ((0 : Nat) : Int)) (fun k => ?_) (l5_ev out bits (by omega) bits 0 rfl (by omega))
      simp only [wicketref11_decoded.l3]
      rw [if_neg (by rw [toI_len]; omega)]
      rfl
    · obtain ⟨b0, r0, rfl, g0⟩ := uncons (n := 7) (show 7 + 1 ≤ bits.length by omega)
      obtain ⟨b1, r1, rfl, g1⟩ := uncons (n := 6) g0
      obtain ⟨b2, r2, rfl, g2⟩ := uncons (n := 5) g1
      obtain ⟨b3, r3, rfl, g3⟩ := uncons (n := 4) g2
      obtain ⟨b4, r4, rfl, g4⟩ := uncons (n := 3) g3
      obtain ⟨b5, r5, rfl, g5⟩ := uncons (n := 2) g4
      obtain ⟨b6, r6, rfl, g6⟩ := uncons (n := 1) g5
      obtain ⟨b7, l, rfl, g7⟩ := uncons (n := 0) g6
      clear g0 g1 g2 g3 g4 g5 g6 g7
      simp only [List.length_cons] at hm hl ho
      refine Ev.step (f := fun k => wicketref11_decoded.l4 k (toI (b0 :: b1 :: b2 :: b3 :: b4 :: b5 :: b6 :: b7 :: l)) (toI out) 0 0) (fun k => ?_) ?_
      · simp only [wicketref11_decoded.l3]
        rw [if_pos (by rw [toI_len]; simp only [List.length_cons]; omega)]
      refine l4_ev b0 b1 b2 b3 b4 b5 b6 b7 l out (hb _ (by simp)) (hb _ (by simp)) (hb _ (by simp)) (hb _ (by simp)) (hb _ (by simp)) (hb _ (by simp)) (hb _ (by simp)) (hb _ (by simp)) (by omega) (by omega) ?_
      have := ih l.length (by omega) l (out ++ [2 * (2 * (2 * (2 * (2 * (2 * (2 * b0 + b1) + b2) + b3) + b4) + b5) + b6) + b7]) (Nat.le_refl _) (by omega) (fun b h => hb b (by simp [h])) (by rw [List.length_append]; simp; omega)
      rw [List.append_assoc] at this
      exact this
def tailB : List Nat → List Nat
  | [] => []
  | [x] => bits6 x
  | [x, y] => [y / 8 % 2, y / 4 % 2, y / 2 % 2, y / 1 % 2]
  | [x, y, z] => [z / 2 % 2, z / 1 % 2]
  | _ :: _ :: _ :: _ :: r => tailB r
theorem pk1 (x y : Nat) (hx : x < 64) (hy : y < 64) : 2 * (2 * (2 * (2 * (2 * (2 * (2 * (x / 32 % 2) + x / 16 % 2) + x / 8 % 2) + x / 4 % 2) + x / 2 % 2) + x / 1 % 2) + y / 32 % 2) + y / 16 % 2 = x * 4 + y / 16 := by omega
theorem pk2 (y z : Nat) (hy : y < 64) (hz : z < 64) : 2 * (2 * (2 * (2 * (2 * (2 * (2 * (y / 8 % 2) + y / 4 % 2) + y / 2 % 2) + y / 1 % 2) + z / 32 % 2) + z / 16 % 2) + z / 8 % 2) + z / 4 % 2 = y % 16 * 16 + z / 4 := by omega
theorem pk3 (z t : Nat) (hz : z < 64) (ht : t < 64) : 2 * (2 * (2 * (2 * (2 * (2 * (2 * (z / 2 % 2) + z / 1 % 2) + t / 32 % 2) + t / 16 % 2) + t / 8 % 2) + t / 4 % 2) + t / 2 % 2) + t / 1 % 2 = z % 4 * 64 + t := by omega
theorem packs_une : ∀ v : List Nat, Lt 64 v → packs (v.flatMap bits6) = ((une v).1, tailB v)
  | [], _ => rfl
  | [x], h => rfl
  | [x, y], h => bit8 _ _ _ _ _ _ _ _ _ _ _ _ (pk1 x y (h x (by simp)) (h y (by simp))) rfl
  | [x, y, z], h => bit8 _ _ _ _ _ _ _ _ _ _ _ _ (pk1 x y (h x (by simp)) (h y (by simp))) (bit8 _ _ _ _ _ _ _ _ _ _ _ _ (pk2 y z (h y (by simp)) (h z (by simp))) rfl)
  | x :: y :: z :: t :: r, h => bit8 _ _ _ _ _ _ _ _ _ _ _ _ (pk1 x y (h x (by simp)) (h y (by simp))) (bit8 _ _ _ _ _ _ _ _ _ _ _ _ (pk2 y z (h y (by simp)) (h z (by simp))) (bit8 _ _ _ _ _ _ _ _ _ _ _ _ (pk3 z t (h z (by simp)) (h t (by simp))) (packs_une r (fun c hc => h c (by simp [hc])))))
theorem tail_une : ∀ v : List Nat, Lt 64 v → ((tailB v).length < 6 ↔ v.length % 4 ≠ 1) ∧ (v.length % 4 ≠ 1 → ((∀ b ∈ tailB v, b = 0) ↔ (une v).2 = 0))
  | [], _ => by simp [tailB, une]
  | [x], h => by simp [tailB, une, bits6]
  | [x, y], h => by
    have hy := h y (by simp)
    simp [tailB, une]
    omega
  | [x, y, z], h => by
    have hz := h z (by simp)
    simp [tailB, une]
    omega
  | x :: y :: z :: t :: r, h => by
    have ih := tail_une r (fun c hc => h c (by simp [hc]))
    simp only [tailB, une, List.length_cons]
    rw [show (r.length + 1 + 1 + 1 + 1) % 4 = r.length % 4 by omega]
    exact ih
end Go.Proofs.YtmimipgmhgalaaaGreatDoor.Sha
end
section
namespace Go.Proofs.YtmimipgmhgalaaaGreatDoor.Sha
open Go.RowKit Go.Proofs.YtmimipgmhgalaaaGreatDoorW.PrintWords Go.Proofs.YtmimipgmhgalaaaGreatDoor.Plain Go.Proofs.YtmimipgmhgalaaaGreatDoor.PAll Go.Proofs.YtmimipgmhgalaaaGreatDoor.Spec
set_option linter.unusedSimpArgs false
set_option linter.unusedVariables false
structure Bare (l m : List UInt8) (p : Nat) : Prop where
  eq : l = m ++ List.replicate p 61
  le : p ≤ 2
  all : p < 2 → m = [] ∨ ∃ q y, m = q ++ [y] ∧ y ≠ 61
theorem last_or (l : List UInt8) : l = [] ∨ (∃ m, l = m ++ [61]) ∨ ∃ q y, l = q ++ [y] ∧ y ≠ 61 := by
  rcases List.eq_nil_or_concat l with h | ⟨q, y, h⟩
  · exact .inl h
  rw [List.concat_eq_append] at h
  by_cases hy : y = 61
  · exact .inr (.inl ⟨q, by rw [h, hy]⟩)
  · exact .inr (.inr ⟨q, y, h, hy⟩)
theorem bare_of (l : List UInt8) : ∃ m p, Bare l m p := by
  rcases last_or l with h | ⟨m, h⟩ | h
  · exact ⟨[], 0, ⟨h, by omega, fun _ => .inl rfl⟩⟩
  · rcases last_or m with h2 | ⟨m2, h2⟩ | h2
    · exact ⟨m, 1, ⟨h, by omega, fun _ => .inl h2⟩⟩
    · exact ⟨m2, 2, ⟨by rw [h, h2, List.append_assoc]; rfl, by omega, fun h => by omega⟩⟩
    · exact ⟨m, 1, ⟨h, by omega, fun _ => .inr h2⟩⟩
  · exact ⟨l, 0, ⟨by simp, by omega, fun _ => .inr h⟩⟩
theorem trim_last (q : List UInt8) (y : UInt8) : Lib.trimSuffix (q ++ [y]) [61] = if y = 61 then q else q ++ [y] := by
  unfold Lib.trimSuffix Lib.hasSuffix
  by_cases hy : y = 61
  · subst hy
    rw [if_pos (by simp [List.isSuffixOf, List.isPrefixOf]), if_pos rfl]
    simp
  · rw [if_neg (by simp [List.isSuffixOf, List.isPrefixOf]; exact fun h => hy h.symm), if_neg hy]
theorem trim_bare {l m : List UInt8} {p : Nat} (h : Bare l m p) : Lib.trimSuffix (Lib.trimSuffix l [61]) [61] = m := by
  have hl := h.le
  have h2 := h.all
  rw [h.eq]
  match p, hl, h2 with
  | 0, _, h2 =>
    rw [List.replicate_zero, List.append_nil]
    rcases h2 (by omega) with rfl | ⟨q, y, rfl, hy⟩
    · rfl
    · rw [trim_last, if_neg hy, trim_last, if_neg hy]
  | 1, _, h2 =>
    rw [show List.replicate 1 (61 : UInt8) = [61] from rfl, trim_last, if_pos rfl]
    rcases h2 (by omega) with rfl | ⟨q, y, rfl, hy⟩
    · rfl
    · rw [trim_last, if_neg hy]
  | 2, _, _ =>
    rw [show m ++ List.replicate 2 (61 : UInt8) = (m ++ [61]) ++ [61] by rw [List.append_assoc]; rfl, trim_last, if_pos rfl, trim_last, if_pos rfl]
def nN (l : List UInt8) : List Nat := l.map UInt8.toNat
theorem nN_sN (s : ByteArray) : sN s = nN s.data.toList := rfl
theorem bt_end {s : ByteArray} (hs : s.size ≤ 65536) {q e : List UInt8} {y : UInt8} (h : s.data.toList = q ++ y :: e) : ((e.length : Nat) : Int) < (s.size : Int) ∧ (0 : Int) ≤ wrap64 (wrap64 ((s.size : Int) - 1) - (e.length : Int)) ∧ wrap64 (wrap64 ((s.size : Int) - 1) - (e.length : Int)) < (s.size : Int) ∧ bt s (wrap64 (wrap64 ((s.size : Int) - 1) - (e.length : Int))) = (y.toNat : Int) := by
  have h1 : s.size = q.length + (e.length + 1) := by
    have : s.data.toList.length = s.size := by simp
    rw [← this, h, List.length_append, List.length_cons]
  have h2 : wrap64 (wrap64 ((s.size : Int) - 1) - (e.length : Int)) = ((q.length : Nat) : Int) := by
    rw [w64 (x := (s.size : Int) - 1) (by omega) (by omega), w64 (by omega) (by omega)]; omega
  rw [h2]
  refine ⟨by omega, by omega, by omega, ?_⟩
  rw [bt_sN s _ (by omega), nN_sN, h]
  unfold nN
  rw [List.map_append, List.getD_eq_getElem?_getD, List.getElem?_append_right (by simp)]
  simp
theorem pad_ev {r : ByteArray × Bool} {s : ByteArray} (hs : s.size ≤ 65536) {m : List UInt8} {p : Nat} (h : Bare s.data.toList m p) (hr : Ev (fun k => wicketref11_decoded.j1 k s (p : Int)) r) : Ev (fun k => wicketref11_decoded.l0 k s 0) r := by
  have hl := h.le
  have h2 := h.all
  have heq := h.eq
  have hsz : s.data.toList.length = s.size := by simp
  have stop (j : Nat) (hj : j < 2) (q e : List UInt8) (y : UInt8) (he : e.length = j) (hy : y ≠ 61) (hq : s.data.toList = q ++ y :: e) (hp : p = j) : Ev (fun k => wicketref11_decoded.l0 k s (j : Int)) r := by
    obtain ⟨a1, a2, a3, a4⟩ := bt_end hs hq
    rw [he] at a1 a2 a3 a4
    subst hp
    refine Ev.step (fun k => ?_) hr
    simp only [wicketref11_decoded.l0]
    rw [if_pos (by omega), if_pos a1, if_pos a2, if_pos a3, a4, if_neg (fun h => hy (UInt8.toNat_inj.1 (by exact Int.ofNat.inj h)))]
  have over (j : Nat) (hj : j < 2) (he : s.size = j) (hp : p = j) : Ev (fun k => wicketref11_decoded.l0 k s (j : Int)) r := by
    subst hp
    refine Ev.step (fun k => ?_) hr
    simp only [wicketref11_decoded.l0]
    rw [if_pos (by omega), if_neg (by omega)]
  have more (j : Nat) (hj : j < 2) (q e : List UInt8) (he : e.length = j) (hq : s.data.toList = q ++ 61 :: e) (hn : Ev (fun k => wicketref11_decoded.l0 k s ((j + 1 : Nat) : Int)) r) : Ev (fun k => wicketref11_decoded.l0 k s (j : Int)) r := by
    obtain ⟨a1, a2, a3, a4⟩ := bt_end hs hq
    rw [he] at a1 a2 a3 a4
    refine Ev.step (fun k => ?_) hn
    simp only [wicketref11_decoded.l0]
    rw [if_pos (by omega), if_pos a1, if_pos a2, if_pos a3, a4, if_pos (by decide), w64 (by omega) (by omega)]
    rfl
  match p, hl, h2, heq, hr, stop, over with
  | 0, _, h2, heq, hr, stop, over =>
    rw [List.replicate_zero, List.append_nil] at heq
    rcases h2 (by omega) with rfl | ⟨q, y, rfl, hy⟩
    · exact over 0 (by omega) (by rw [← hsz, heq]; rfl) rfl
    · exact stop 0 (by omega) q [] y rfl hy heq rfl
  | 1, _, h2, heq, hr, stop, over =>
    refine more 0 (by omega) m [] rfl heq ?_
    rcases h2 (by omega) with rfl | ⟨q, y, rfl, hy⟩
    · exact over 1 (by omega) (by rw [← hsz, heq]; rfl) rfl
    · exact stop 1 (by omega) q [61] y rfl hy (by rw [heq, List.append_assoc]; rfl) rfl
  | 2, _, _, heq, hr, stop, over =>
    refine more 0 (by omega) (m ++ [61]) [] rfl (by rw [heq, List.append_assoc]; rfl) (more 1 (by omega) m [61] rfl heq ?_)
    refine Ev.step (fun k => ?_) hr
    simp only [wicketref11_decoded.l0]
    rw [if_neg (by omega)]
def decB (m : List Nat) : Option (List Nat) := if (∀ c ∈ m, okc c) ∧ m.length % 4 ≠ 1 ∧ (une (m.map v6)).2 = 0 then some (une (m.map v6)).1 else none
def DecR (o : Option (List Nat)) (x : ByteArray) (ok : Bool) : Prop := match o with | some p => ok = true ∧ x = strOfNums (toI p) | none => ok = false
theorem map_v6_lt {m : List Nat} (h : ∀ c ∈ m, okc c) : Lt 64 (m.map v6) := fun x hx => by
  obtain ⟨c, hc, rfl⟩ := List.mem_map.1 hx
  exact v6_lt c (h c hc)
theorem flat_bits (m : List Nat) : (m.flatMap fun c => bits6 (v6 c)) = (m.map v6).flatMap bits6 := by
  rw [List.flatMap_map]
theorem bits_len (v : List Nat) : (v.flatMap bits6).length = 6 * v.length := by
  induction v with
  | nil => rfl
  | cons x r ih => rw [List.flatMap_cons, List.length_append, ih, List.length_cons]; simp [bits6]; omega
theorem bits_two (v : List Nat) : ∀ b ∈ v.flatMap bits6, b < 2 := fun b hb => by
  obtain ⟨x, _, hx⟩ := List.mem_flatMap.1 hb
  simp only [bits6, List.mem_cons, List.not_mem_nil, or_false] at hx
  omega
theorem decoded_ev {s : ByteArray} (hs : s.size ≤ 65536) {m : List UInt8} {p : Nat} (h : Bare s.data.toList m p) (h4 : s.size % 4 = 0) : ∃ x ok, Ev (fun k => wicketref11_decoded.f k s) (x, ok) ∧ DecR (decB (nN m)) x ok := by
  have hsz : s.data.toList.length = s.size := by simp
  have hm : m.length + p = s.size := by rw [← hsz, h.eq, List.length_append, List.length_replicate]
  have htk : (sN s).take m.length = nN m := by
    rw [nN_sN, h.eq]; unfold nN; rw [List.map_append, List.take_left' (by simp)]
  have start {r : ByteArray × Bool} (hr : Ev (fun k => wicketref11_decoded.l1 k s (m.length : Int) (toI []) ((0 : Nat) : Int)) r) : Ev (fun k => wicketref11_decoded.f k s) r := by
    unfold wicketref11_decoded.f
    refine Ev.pos (by omega) (pad_ev hs h (Ev.step (fun k => ?_) hr))
    simp only [wicketref11_decoded.j1]
    rw [w64 (by omega) (by omega), show (s.size : Int) - (p : Int) = (m.length : Int) by omega]
    rfl
  by_cases hok : ∀ c ∈ nN m, okc c
  · have hv := map_v6_lt hok
    have hlm : (nN m).length = m.length := by simp [nN]
    have h3 := l3_ev _ ((nN m).flatMap fun c => bits6 (v6 c)) [] (Nat.le_refl _) (by rw [flat_bits, bits_len, List.length_map]; omega) (by rw [flat_bits]; exact bits_two _) (by rw [flat_bits, bits_len, List.length_map]; simp; omega)
    have hp := packs_une _ hv
    rw [← flat_bits] at hp
    rw [List.nil_append, hp] at h3
    have ht := tail_une _ hv
    rw [List.length_map] at ht
    refine ⟨(fin (une ((nN m).map v6)).1 (tailB ((nN m).map v6))).1, (fin (une ((nN m).map v6)).1 (tailB ((nN m).map v6))).2, start (l1_good s m.length (by omega) hs (nN m) 0 [] (by rw [htk]; rfl) rfl (by omega) hok h3), ?_⟩
    unfold fin decB
    by_cases h1 : (nN m).length % 4 ≠ 1
    · by_cases hz : (une ((nN m).map v6)).2 = 0
      · rw [if_pos ((ht.2 h1).2 hz), if_pos ⟨hok, h1, hz⟩]
        exact ⟨decide_eq_true (ht.1.2 h1), rfl⟩
      · rw [if_neg (fun hx => hz ((ht.2 h1).1 hx)), if_neg (fun hx => hz hx.2.2)]
        exact rfl
    · rw [if_neg (fun hx => h1 hx.2.1)]
      unfold DecR
      show Prod.snd _ = false
      by_cases hz : ∀ b ∈ tailB ((nN m).map v6), b = 0
      · rw [if_pos hz]; exact decide_eq_false (fun hx => h1 (ht.1.1 hx))
      · rw [if_neg hz]
  · have hbad : ∃ c ∈ nN m, ¬ okc c := by
      apply Classical.byContradiction
      intro hn
      exact hok (fun c hc => Classical.byContradiction fun hx => hn ⟨c, hc, hx⟩)
    refine ⟨_, _, start (l1_bad s m.length (by omega) hs (nN m) 0 [] (by rw [htk]; rfl) rfl hbad), ?_⟩
    unfold decB DecR
    rw [if_neg (fun hx => hok hx.1)]
theorem strN_size (p : List Nat) : (strOfNums (toI p)).size = p.length := by
  have h := congrArg List.length (Lib.strOfNums_toList (toI p))
  rw [ByteArray.toList_eq] at h
  unfold Lib.bytesOf at h
  rw [List.length_map, toI_len] at h
  rw [← h]; simp
theorem bad_none {al : List Nat} : ∀ (v : List Nat) (i : Nat), (∀ c ∈ v, c ∈ al) → bad al v i = none
  | [], _, _ => rfl
  | c :: r, i, h => by rw [bad, if_pos (h c (by simp))]; exact bad_none r (i + 1) (fun d hd => h d (by simp [hd]))
theorem nN_rep (m : List UInt8) : nN (repL 47 95 (repL 43 45 m)) = (nN m).map mapPl := by
  unfold nN repL
  rw [List.map_map, List.map_map, List.map_map]
  apply List.map_congr_left
  intro c _
  show UInt8.toNat (if (if c = 43 then 45 else c) = 47 then 95 else (if c = 43 then 45 else c)) = mapPl c.toNat
  unfold mapPl
  by_cases h1 : c = 43
  · subst h1; rfl
  · have h1' : c.toNat ≠ 43 := fun e => h1 (UInt8.toNat_inj.1 e)
    rw [if_neg h1, if_neg h1']
    by_cases h2 : c = 47
    · subst h2; rfl
    · have h2' : c.toNat ≠ 47 := fun e => h2 (UInt8.toNat_inj.1 e)
      rw [if_neg h2, if_neg h2']
theorem hasDU_iff (l : List UInt8) : hasDU l = true ↔ ∃ c ∈ l, c.toNat = 45 ∨ c.toNat = 95 := by
  unfold hasDU
  rw [List.any_eq_true]
  simp [isDU]
theorem common_ev {s : ByteArray} (hs : s.size ≤ 65536) {m : List UInt8} {p : Nat} (h : Bare s.data.toList m p) (h4 : s.size % 4 = 0) : ∃ x ok, Ev (fun k => client_common.f k s) (x, ok) ∧ DecR (decB (nN m)) x ok ∧ x.size ≤ 65536 := by
  have hsz : s.data.toList.length = s.size := by simp
  have hm : m.length + p = s.size := by rw [← hsz, h.eq, List.length_append, List.length_replicate]
  have hp := h.le
  have hrl : (repL 47 95 (repL 43 45 m)).length = m.length := by simp [repL]
  unfold client_common.f
  by_cases hd : hasDU s.data.toList = true
  · refine ⟨_, _, Ev.pos (by omega) (Ev.bind (a := true) (Ev.eq (s := true) (Ev.congr (f := fun _ => some (hasDU s.data.toList)) (fun _ => if_pos ⟨by omega, rfl⟩) (Ev.now _)) hd) (Ev.step (f := fun _ => some ((⟨#[]⟩ : ByteArray), false)) (fun k => by simp only [client_common.j0, if_true]) (Ev.now _))), ?_, by decide⟩
    obtain ⟨c, hc, hcd⟩ := (hasDU_iff _).1 hd
    have hcm : c ∈ m := by
      rw [h.eq] at hc
      rcases List.mem_append.1 hc with hc | hc
      · exact hc
      · rw [(List.mem_replicate.1 hc).2] at hcd; exact absurd hcd (by decide)
    unfold decB DecR
    rw [if_neg (fun hx => by
      have h1 := hx.1 c.toNat (List.mem_map.2 ⟨c, hcm, rfl⟩)
      rcases hcd with e | e
      · exact h1.1 e
      · exact h1.2.1 e)]
  · have hd' : hasDU s.data.toList = false := by simpa using hd
    have hno : ∀ c ∈ m, c.toNat ≠ 45 ∧ c.toNat ≠ 95 := fun c hc => by
      have hcl : c ∈ s.data.toList := by rw [h.eq]; exact List.mem_append_left _ hc
      exact ⟨fun e => hd ((hasDU_iff _).2 ⟨c, hcl, .inl e⟩), fun e => hd ((hasDU_iff _).2 ⟨c, hcl, .inr e⟩)⟩
    have hok : (∀ c ∈ nN m, okc c) ↔ ∀ c ∈ (nN m).map mapPl, c ∈ al64 := by
      constructor
      · intro hx c hc
        obtain ⟨d, hd, rfl⟩ := List.mem_map.1 hc
        exact (hx d hd).2.2
      · intro hx c hc
        obtain ⟨d, hd, rfl⟩ := List.mem_map.1 hc
        have := hno d hd
        exact ⟨this.1, this.2, hx _ (List.mem_map.2 ⟨_, hc, rfl⟩)⟩
    have hv : ((nN m).map mapPl).map (value al64) = (nN m).map v6 := by rw [List.map_map]; rfl
    have hnl : (nN m).length = m.length := by simp [nN]
    let T : ByteArray := ⟨(repL 47 95 (repL 43 45 m)).toArray⟩
    have hT : sN T = (nN m).map mapPl := nN_rep m
    have hTs : T.size = m.length := by rw [← hrl]; show (repL 47 95 (repL 43 45 m)).toArray.size = _; simp
    have hF := from64_ev T
    rw [hT] at hF
    have key : (∃ pp, decB (nN m) = some pp ∧ from64 ((nN m).map mapPl) = (pp, 0, 0)) ∨ (decB (nN m) = none ∧ (from64 ((nN m).map mapPl)).2.1 ≠ 0) := by
      have hF64 : from64 ((nN m).map mapPl) = (match bad al64 ((nN m).map mapPl) 0 with
          | some i => ([], 20, i)
          | none => if (nN m).length % 4 = 1 then ([], 3, (nN m).length) else if (une ((nN m).map v6)).2 = 0 then ((une ((nN m).map v6)).1, 0, 0) else ([], 21, (nN m).length - 1)) := by
        unfold from64
        rw [if_neg (by rw [List.length_map, hnl]; omega), hv, List.length_map]
        all_goals (cases bad al64 ((nN m).map mapPl) 0 <;> rfl)
      rw [hF64]
      unfold decB
      by_cases h1 : ∀ c ∈ nN m, okc c
      · rw [bad_none _ _ (hok.1 h1)]
        by_cases h2 : (nN m).length % 4 = 1
        · exact .inr ⟨if_neg (fun hx => hx.2.1 h2), by simp [h2]⟩
        · by_cases h3 : (une ((nN m).map v6)).2 = 0
          · exact .inl ⟨_, if_pos ⟨h1, h2, h3⟩, by simp [h2, h3]⟩
          · exact .inr ⟨if_neg (fun hx => h3 hx.2.2), by simp [h2, h3]⟩
      · refine .inr ⟨if_neg (fun hx => h1 hx.1), ?_⟩
        cases hb : bad al64 ((nN m).map mapPl) 0 with
        | none => exact absurd (hok.2 (good _ _ hb)) h1
        | some i => simp
    have go {r : ByteArray × Bool} (hr : Ev (fun k => (digest_FromBase64.f k T).bind fun bt204 => (if bt204.2.1 = 0 then (some (strOfNums bt204.1, ((wrap64 ((wrap64 (Int.tdiv (wrap64 ((T.size : Int) + 3)) 4)) * 4)) == (s.size : Int)))) else (some (strOfNums bt204.1, false)))) r) :
        Ev (fun k => if ((s.size : Int) % 4) = 0 then ((strings_ContainsAny.f s (⟨#[45, 95]⟩ : ByteArray)).bind fun t199 => (client_common.j0 k s t199)) else (client_common.j0 k s true)) r := by
      refine Ev.pos (by omega) (Ev.bind (a := false) (Ev.eq (Ev.congr (f := fun _ => some (hasDU s.data.toList)) (fun _ => if_pos ⟨by omega, rfl⟩) (Ev.now _)) hd') (Ev.step (fun k => ?_) hr))
      simp only [client_common.j0]
      rw [if_neg (by decide)]
      have e1 : strings_TrimSuffix.f s (⟨#[61]⟩ : ByteArray) = some ⟨(Lib.trimSuffix s.data.toList [61]).toArray⟩ := if_pos (by omega)
      have hlt : (Lib.trimSuffix s.data.toList [61]).length ≤ s.size := by
        unfold Lib.trimSuffix; split
        · rw [List.length_take]; omega
        · omega
      have e2 : strings_TrimSuffix.f ⟨(Lib.trimSuffix s.data.toList [61]).toArray⟩ (⟨#[61]⟩ : ByteArray) = some ⟨m.toArray⟩ := by
        unfold strings_TrimSuffix.f
        rw [if_pos (by show (Lib.trimSuffix s.data.toList [61]).toArray.size ≤ _; simp; omega)]
        exact congrArg (fun l => some (⟨List.toArray l⟩ : ByteArray)) (trim_bare h)
      have e3 : strings_ReplaceAll.f ⟨m.toArray⟩ (⟨#[43]⟩ : ByteArray) (⟨#[45]⟩ : ByteArray) = some ⟨(repL 43 45 m).toArray⟩ := if_pos ⟨rfl, rfl, by show m.toArray.size < _; simp; omega⟩
      have e4 : strings_ReplaceAll.f ⟨(repL 43 45 m).toArray⟩ (⟨#[47]⟩ : ByteArray) (⟨#[95]⟩ : ByteArray) = some T := if_pos ⟨rfl, rfl, by show (repL 43 45 m).toArray.size < _; simp [repL]; omega⟩
      rw [e1, Option.bind_some, e2, Option.bind_some, e3, Option.bind_some, e4, Option.bind_some]
    rcases key with ⟨pp, k1, k2⟩ | ⟨k1, k2⟩
    · rw [k2] at hF
      refine ⟨strOfNums (toI pp), true, go (Ev.bind hF (Ev.pos rfl (Ev.eq (Ev.now _) ?_))), ?_, ?_⟩
      · have h1 : m.length % 4 ≠ 1 := by
          intro e
          unfold decB at k1
          rw [if_neg (fun hx => hx.2.1 (by rw [hnl]; exact e))] at k1
          cases k1
        refine Prod.ext rfl ?_
        show ((wrap64 ((wrap64 (Int.tdiv (wrap64 ((T.size : Int) + 3)) 4)) * 4)) == (s.size : Int)) = true
        rw [beq_iff_eq, hTs, w64 (x := (m.length : Int) + 3) (by omega) (by omega), show (m.length : Int) + 3 = ((m.length + 3 : Nat) : Int) by omega, show Int.tdiv ((m.length + 3 : Nat) : Int) 4 = (((m.length + 3) / 4 : Nat) : Int) from rfl, w64 (x := (((m.length + 3) / 4 : Nat) : Int)) (by omega) (by omega), w64 (by omega) (by omega)]
        omega
      · rw [k1]; exact ⟨rfl, rfl⟩
      · have := from64_len ((nN m).map mapPl)
        rw [k2] at this
        rw [strN_size]; exact this
    · refine ⟨_, false, go (Ev.bind hF (Ev.neg (fun e => k2 (by exact Int.ofNat.inj e)) (Ev.now _))), ?_, ?_⟩
      · rw [k1]; rfl
      · have := from64_len ((nN m).map mapPl)
        show (strOfNums (toI (from64 ((nN m).map mapPl)).1)).size ≤ _
        rw [strN_size]; exact this
end Go.Proofs.YtmimipgmhgalaaaGreatDoor.Sha
end
section
namespace Go.Proofs.YtmimipgmhgalaaaGreatDoor.Pure
open Go.RowKit Go.Proofs.YtmimipgmhgalaaaGreatDoorW.PrintWords Go.Proofs.YtmimipgmhgalaaaGreatDoor.Plain Go.Proofs.YtmimipgmhgalaaaGreatDoor.Spec
set_option linter.unusedSimpArgs false
set_option linter.unusedVariables false
def n8 (l : List UInt8) : List Int := l.map fun b => (b.toNat : Int)
theorem n8_len (l : List UInt8) : (n8 l).length = l.length := List.length_map ..
theorem n8_snoc (l : List UInt8) (c : UInt8) : n8 l ++ [(c.toNat : Int)] = n8 (l ++ [c]) := by simp [n8]
theorem str_n8 (l : List UInt8) : strOfNums (n8 l) = bs l := Lib.Lz.strOfNums_map l
theorem bt_get (s : ByteArray) (i : Nat) (h : i < s.size) : bt s (i : Int) = (s[i].toNat : Int) := by
  unfold bt
  rw [dif_pos (by simpa using h)]
  rfl
theorem u8_of (n : Int) (h0 : 0 ≤ n) (h1 : n < 256) : ((UInt8.ofNat n.toNat).toNat : Int) = n := by
  rw [UInt8.toNat_ofNat']; omega
theorem u8_lit (c : UInt8) (n : Nat) (h : c.toNat = n) : c = UInt8.ofNat n := by rw [← h, UInt8.ofNat_toNat]
end Go.Proofs.YtmimipgmhgalaaaGreatDoor.Pure
end
section
namespace Go.Proofs.YtmimipgmhgalaaaGreatDoor.Pure
open Go.RowKit Go.Proofs.YtmimipgmhgalaaaGreatDoorW.PrintWords Go.Proofs.YtmimipgmhgalaaaGreatDoor.Plain Go.Proofs.YtmimipgmhgalaaaGreatDoor.Spec Go.Proofs.YtmimipgmhgalaaaGreatDoor.PAll
set_option linter.unusedSimpArgs false
set_option linter.unusedVariables false
theorem digit_ev (c : UInt8) : Ev (fun k => wicketref03_digit.f k (c.toNat : Int)) (hexI c) := by
  have hc := c.toNat_lt
  unfold wicketref03_digit.f hexI
  by_cases h1 : 48 ≤ (c.toNat : Int) ∧ (c.toNat : Int) ≤ 57
  · rw [if_pos h1]
    refine Ev.pos (by omega) (Ev.step (f := fun _ => some ((c.toNat : Int) - 48)) (fun k => ?_) (Ev.now _))
    simp only [wicketref03_digit.j0]
    rw [if_pos (by simpa using h1.2), Int.emod_eq_of_lt (by omega) (by omega)]
  · rw [if_neg h1]
    have hj : Ev (fun k => wicketref03_digit.j0 k (c.toNat : Int) false) (if 97 ≤ (c.toNat : Int) ∧ (c.toNat : Int) ≤ 102 then (c.toNat : Int) - 97 + 10 else if 65 ≤ (c.toNat : Int) ∧ (c.toNat : Int) ≤ 70 then (c.toNat : Int) - 65 + 10 else -1) := by
      have hj1 : ∀ b : Bool, b = decide (97 ≤ (c.toNat : Int) ∧ (c.toNat : Int) ≤ 102) → Ev (fun k => wicketref03_digit.j1 k (c.toNat : Int) b) (if 97 ≤ (c.toNat : Int) ∧ (c.toNat : Int) ≤ 102 then (c.toNat : Int) - 97 + 10 else if 65 ≤ (c.toNat : Int) ∧ (c.toNat : Int) ≤ 70 then (c.toNat : Int) - 65 + 10 else -1) := by
        intro b hb
        refine Ev.step (f := fun _ => some _) (fun k => ?_) (Ev.now _)
        simp only [wicketref03_digit.j1]
        by_cases h2 : 97 ≤ (c.toNat : Int) ∧ (c.toNat : Int) ≤ 102
        · rw [if_pos (by rw [hb]; simpa using h2), if_pos h2, Int.emod_eq_of_lt (by omega) (by omega)]
        · rw [if_neg (by rw [hb]; simpa using h2), if_neg h2]
          by_cases h3 : 65 ≤ (c.toNat : Int) ∧ (c.toNat : Int) ≤ 70
          · rw [if_pos h3, if_pos h3.1, if_pos h3.2, Int.emod_eq_of_lt (by omega) (by omega)]
          · rw [if_neg h3]
            by_cases h4 : (c.toNat : Int) ≥ 65
            · rw [if_pos h4, if_neg (by omega)]
            · rw [if_neg h4]
      by_cases h5 : (c.toNat : Int) ≥ 97
      · refine Ev.step (fun k => ?_) (hj1 (decide ((c.toNat : Int) ≤ 102)) (by rw [decide_eq_decide]; omega))
        simp only [wicketref03_digit.j0]
        rw [if_neg (by simp), if_pos h5]
      · refine Ev.step (fun k => ?_) (hj1 false (by rw [eq_comm, decide_eq_false_iff_not]; omega))
        simp only [wicketref03_digit.j0]
        rw [if_neg (by simp), if_neg h5]
    by_cases h6 : (c.toNat : Int) ≥ 48
    · refine Ev.pos h6 ?_
      rw [decide_eq_false (by omega)]
      exact hj
    · exact Ev.neg h6 hj
def resU (r : List UInt8 × Int × Int) : ByteArray × Int × Int := (bs r.1, r.2.1, r.2.2)
theorem refun_loop (s : ByteArray) (hs : s.size ≤ 140737488351232) : ∀ (m i : Nat) (acc : List UInt8), s.size ≤ i + m → i ≤ s.size → acc.length ≤ i →
    Ev (fun k => wicketref03_Unescape.l0 k s (n8 acc) (i : Int)) (resU (unescL (s.data.toList.drop i) i acc)) := by
  intro m
  induction m with
  | zero =>
    intro i acc hi hi2 ha
    rw [List.drop_eq_nil_of_le (by rw [data_len]; omega)]
    refine Ev.step (f := fun _ => some (bs acc, 0, 0)) (fun k => ?_) (Ev.eq (Ev.now _) rfl)
    simp only [wicketref03_Unescape.l0]
    simp (disch := omega) only [↓if_pos, ↓if_neg, str_n8]
  | succ m ih =>
    intro i acc hi hi2 ha
    by_cases hlt : i < s.size
    · have hbt := bt_get s i hlt
      have hal := n8_len acc
      rw [drop_at s i hlt]
      generalize hc : s[i] = c at *
      have hl0 : Ev (fun k => wicketref03_Unescape.j1 k s (n8 acc) (i : Int) (c.toNat : Int) (decide ((c.toNat : Int) < 33 ∨ 126 < (c.toNat : Int)))) (resU (unescL (c :: s.data.toList.drop (i + 1)) i acc)) → Ev (fun k => wicketref03_Unescape.l0 k s (n8 acc) (i : Int)) (resU (unescL (c :: s.data.toList.drop (i + 1)) i acc)) := by
        refine fun h => Ev.step (fun k => ?_) h
        simp only [wicketref03_Unescape.l0]
        rw [if_pos (by omega), if_pos (by omega), hbt]
        by_cases h1 : (c.toNat : Int) < 33
        · rw [if_pos h1, decide_eq_true (Or.inl h1)]
        · rw [if_neg h1]
          congr 1
          rw [decide_eq_decide]
          omega
      refine hl0 ?_
      clear hl0
      by_cases hb : (c.toNat : Int) < 33 ∨ 126 < (c.toNat : Int)
      · rw [decide_eq_true hb, unescL_bad _ _ _ _ hb]
        refine Ev.step (f := fun _ => some (⟨#[]⟩, 31, (i : Int))) (fun k => ?_) (Ev.eq (Ev.now _) rfl)
        simp only [wicketref03_Unescape.j1, if_true]
      · rw [decide_eq_false hb]
        by_cases h1 : c = 43
        · rw [unescL_plus _ _ _ _ h1]
          have h1' : (c.toNat : Int) = 43 := by rw [h1]; rfl
          refine Ev.step (fun k => ?_) (ih (i + 1) (acc ++ [32]) (by omega) (by omega) (by rw [List.length_append, List.length_singleton]; omega))
          simp only [wicketref03_Unescape.j1]
          simp (disch := omega) only [↓if_pos, ↓if_neg, Bool.false_eq_true, if_false, w64, ← n8_snoc]
          rfl
        · have h1' : ¬ (c.toNat : Int) = 43 := fun e => h1 (u8_lit c 43 (by omega))
          by_cases h2 : c = 37
          · have h2' : (c.toNat : Int) = 37 := by rw [h2]; rfl
            have hbad : ∀ k, wicketref03_Unescape.j2 (k + 1) s (n8 acc) (i : Int) true = some (⟨#[]⟩, 30, (i : Int)) := fun k => by
              simp only [wicketref03_Unescape.j2, if_true]
            have hbadE : Ev (fun k => wicketref03_Unescape.j2 k s (n8 acc) (i : Int) true) ((⟨#[]⟩ : ByteArray), 30, (i : Int)) := Ev.step (f := fun _ => some _) hbad (Ev.now _)
            by_cases h3 : i + 2 < s.size
            · have hd := digit_ev s[i + 1]
              have he := digit_ev s[i + 2]
              have r1 := hexI_range s[i + 1]
              have r2 := hexI_range s[i + 2]
              have hb1 : bt s ((i : Int) + 1) = (s[i + 1].toNat : Int) := bt_get s (i + 1) (by omega)
              have hb2 : bt s ((i : Int) + 2) = (s[i + 2].toNat : Int) := bt_get s (i + 2) (by omega)
              rw [drop_at s (i + 1) (by omega), drop_at s (i + 2) (by omega)]
              have ih3 := ih (i + 3)
              generalize s[i + 1] = d at *
              generalize s[i + 2] = e at *
              refine Ev.step (f := fun k => (wicketref03_digit.f k (d.toNat : Int)).bind fun t155 => (if t155 < 0 then (wicketref03_Unescape.j2 k s (n8 acc) (i : Int) true) else (wicketref03_digit.f k (e.toNat : Int)).bind fun t156 => (wicketref03_Unescape.j2 k s (n8 acc) (i : Int) (decide (t156 < 0))))) (fun k => ?_) ?_
              · simp only [wicketref03_Unescape.j1]
                simp (disch := omega) only [↓if_pos, ↓if_neg, Bool.false_eq_true, if_false, w64, hb1, hb2]
              · refine Ev.bind hd ?_
                by_cases h4 : hexI d < 0
                · rw [unescL_nohex _ _ _ _ _ _ h2 (.inl h4)]
                  exact Ev.pos h4 hbadE
                · refine Ev.neg h4 (Ev.bind he ?_)
                  by_cases h5 : hexI e < 0
                  · rw [unescL_nohex _ _ _ _ _ _ h2 (.inr h5), decide_eq_true h5]
                    exact hbadE
                  · rw [unescL_hex c d e _ _ _ h2 (by omega), decide_eq_false h5]
                    have hv := u8_of (16 * hexI d + hexI e) (by omega) (by omega)
                    refine Ev.step (f := fun k => (wicketref03_digit.f k (d.toNat : Int)).bind fun t157 => (wicketref03_digit.f k (e.toNat : Int)).bind fun t158 => (wicketref03_Unescape.l0 k s (n8 acc ++ [(wrap64 ((wrap64 (16 * t157)) + t158)) % 256]) ((i + 3 : Nat) : Int))) (fun k => ?_) ?_
                    · simp only [wicketref03_Unescape.j2]
                      simp (disch := omega) only [↓if_pos, ↓if_neg, Bool.false_eq_true, if_false, w64, hb1, hb2]
                      rw [show (i : Int) + 2 + 1 = ((i + 3 : Nat) : Int) by omega]
                    · refine Ev.bind hd (Ev.bind he ?_)
                      rw [w64 (x := 16 * hexI d) (by omega) (by omega), w64 (by omega) (by omega), Int.emod_eq_of_lt (by omega) (by omega)]
                      have key := ih3 (acc ++ [UInt8.ofNat (16 * hexI d + hexI e).toNat]) (by omega) (by omega) (by rw [List.length_append, List.length_singleton]; omega)
                      rw [← n8_snoc, hv] at key
                      exact key
            · rw [unescL_short _ _ _ _ h2 (by rw [List.length_drop, data_len]; omega)]
              refine Ev.step (fun k => ?_) hbadE
              simp only [wicketref03_Unescape.j1]
              simp (disch := omega) only [↓if_pos, ↓if_neg, Bool.false_eq_true, if_false, w64]
          · have h2' : ¬ (c.toNat : Int) = 37 := fun e => h2 (u8_lit c 37 (by omega))
            rw [unescL_keep _ _ _ _ hb h1 h2]
            refine Ev.step (fun k => ?_) (ih (i + 1) (acc ++ [c]) (by omega) (by omega) (by rw [List.length_append, List.length_singleton]; omega))
            simp only [wicketref03_Unescape.j1]
            simp (disch := omega) only [↓if_pos, ↓if_neg, Bool.false_eq_true, if_false, w64, ← n8_snoc]
            rfl
    · have he : i = s.size := by omega
      rw [List.drop_eq_nil_of_le (by rw [data_len]; omega)]
      refine Ev.step (f := fun _ => some (bs acc, 0, 0)) (fun k => ?_) (Ev.eq (Ev.now _) rfl)
      simp only [wicketref03_Unescape.l0]
      simp (disch := omega) only [↓if_pos, ↓if_neg, str_n8]
theorem refun_ev (s : ByteArray) (hs : s.size ≤ 140737488351232) : Ev (fun k => wicketref03_Unescape.f k s) (resU (unescL s.data.toList 0 [])) := by
  unfold wicketref03_Unescape.f
  exact refun_loop s hs s.size 0 [] (by omega) (by omega) (by simp)
end Go.Proofs.YtmimipgmhgalaaaGreatDoor.Pure
end
section
namespace Go.Proofs.YtmimipgmhgalaaaGreatDoor.Pure
open Go.RowKit Go.Proofs.YtmimipgmhgalaaaGreatDoorW.PrintWords Go.Proofs.YtmimipgmhgalaaaGreatDoor.Plain Go.Proofs.YtmimipgmhgalaaaGreatDoor.PAll Go.Proofs.YtmimipgmhgalaaaGreatDoor.Spec Go.Proofs.YtmimipgmhgalaaaGreatDoor.Sha
set_option linter.unusedSimpArgs false
set_option linter.unusedVariables false
abbrev E3 : ByteArray × ByteArray × Int := ((⟨#[]⟩ : ByteArray), (⟨#[]⟩ : ByteArray), 113)
def saidP (l : List UInt8) : ByteArray × ByteArray × Int :=
  if (cutL 58 l).2.2 = true ∧ (unescL (cutL 58 l).1 0 []).2.1 = 0 ∧ (unescL (cutL 58 l).2.1 0 []).2.1 = 0 then (bs (unescL (cutL 58 l).1 0 []).1, bs (unescL (cutL 58 l).2.1 0 []).1, 0) else E3
theorem cutL_len (c : UInt8) : ∀ l : List UInt8, (cutL c l).1.length ≤ l.length ∧ (cutL c l).2.1.length ≤ l.length
  | [] => by simp [cutL]
  | x :: r => by
    have := cutL_len c r
    unfold cutL
    split
    · simp
    · simp; omega
theorem cutL_spec (c : UInt8) : ∀ l : List UInt8, ((cutL c l).2.2 = true → l = (cutL c l).1 ++ c :: (cutL c l).2.1) ∧ ((cutL c l).2.2 = false → (cutL c l).1 = l)
  | [] => by simp [cutL]
  | x :: r => by
    have ih := cutL_spec c r
    unfold cutL
    by_cases hx : x = c
    · rw [if_pos hx]; exact ⟨fun _ => by rw [hx]; rfl, fun h => by cases h⟩
    · rw [if_neg hx]
      exact ⟨fun h => congrArg (List.cons x) (ih.1 h), fun h => congrArg (List.cons x) (ih.2 h)⟩
theorem tailP (x : ByteArray) (ok : Bool) (hx : x.size ≤ 65536) : ((strings_Cut.f x (⟨#[58]⟩ : ByteArray)).bind fun bt213 => ((urlform_Unescape.f bt213.1).bind fun bt216 => ((urlform_Unescape.f bt213.2.1).bind fun bt219 => (if ok = true then (if bt213.2.2 = true then (if bt216.2.1 = 0 then (if bt219.2.1 = 0 then (some (bt216.1, bt219.1, (0 : Int))) else (some ((⟨#[]⟩ : ByteArray), (⟨#[]⟩ : ByteArray), 113))) else (some ((⟨#[]⟩ : ByteArray), (⟨#[]⟩ : ByteArray), 113))) else (some ((⟨#[]⟩ : ByteArray), (⟨#[]⟩ : ByteArray), 113))) else (some ((⟨#[]⟩ : ByteArray), (⟨#[]⟩ : ByteArray), 113)))))) = some (if ok = true then saidP x.data.toList else E3) := by
  have hl : x.data.toList.length = x.size := by simp
  have h1 := cutL_len 58 x.data.toList
  have s1 : (bs (cutL 58 x.data.toList).1).size ≤ 65536 := by rw [bs_size]; omega
  have s2 : (bs (cutL 58 x.data.toList).2.1).size ≤ 65536 := by rw [bs_size]; omega
  rw [cut_eq x 58 (by omega), Option.bind_some]
  dsimp only
  rw [unesc_eq _ (by omega), Option.bind_some, unesc_eq _ (by omega), Option.bind_some, bs_data, bs_data]
  unfold saidP
  by_cases h0 : ok = true
  · rw [if_pos h0, if_pos h0]
    by_cases c1 : (cutL 58 x.data.toList).2.2 = true
    · rw [if_pos c1]
      by_cases c2 : (unescL (cutL 58 x.data.toList).1 0 []).2.1 = 0
      · rw [if_pos c2]
        by_cases c3 : (unescL (cutL 58 x.data.toList).2.1 0 []).2.1 = 0
        · rw [if_pos c3, if_pos ⟨c1, c2, c3⟩]
        · rw [if_neg c3, if_neg (fun h => c3 h.2.2)]
      · rw [if_neg c2, if_neg (fun h => c2 h.2.1)]
    · rw [if_neg c1, if_neg (fun h => c1 h.1)]
  · rw [if_neg h0, if_neg h0]
theorem bt_at' {s : ByteArray} {q e : List UInt8} {y : UInt8} (h : s.data.toList = q ++ y :: e) : (q.length : Int) < (s.size : Int) ∧ bt s (q.length : Int) = (y.toNat : Int) := by
  have h1 : s.data.toList.length = s.size := by simp
  have h2 : q.length < s.size := by rw [← h1, h, List.length_append, List.length_cons]; omega
  refine ⟨by omega, ?_⟩
  rw [bt_sN s _ h2, nN_sN, h]
  unfold nN
  rw [List.map_append, List.getD_eq_getElem?_getD, List.getElem?_append_right (by simp)]
  simp
theorem ba_ext {a b : ByteArray} (h : a.data.toList = b.data.toList) : a = b := toList_inj (by rw [ByteArray.toList_eq, ByteArray.toList_eq, h])
theorem take_of {l a b : List UInt8} {c : UInt8} (h : l = a ++ c :: b) : l.take a.length = a := by rw [h]; exact List.take_left' rfl
theorem drop_of {l a b : List UInt8} {c : UInt8} (h : l = a ++ c :: b) : l.drop (a.length + 1) = b := by
  rw [h, ← List.drop_drop, List.drop_left' rfl]; rfl
theorem l2r_ev {r : ByteArray × ByteArray × Int} (x : ByteArray) (hx : x.size ≤ 65536) : ∀ (d q : List UInt8), x.data.toList = q ++ d → Ev (fun k => wicketref11_Basic.j7 k x ((q.length + (cutL 58 d).1.length : Nat) : Int)) r → Ev (fun k => wicketref11_Basic.l2 k x (q.length : Int)) r
  | [], q, h, hr => by
    have h1 : x.data.toList.length = x.size := by simp
    rw [h, List.append_nil] at h1
    refine Ev.step (fun k => ?_) hr
    simp only [wicketref11_Basic.l2]
    rw [if_neg (by omega)]
    rfl
  | y :: d, q, h, hr => by
    obtain ⟨h1, h2⟩ := bt_at' h
    by_cases hy : y = 58
    · refine Ev.step (fun k => ?_) hr
      simp only [wicketref11_Basic.l2]
      rw [if_pos h1, if_pos (by omega), h2, if_pos (by rw [hy]; rfl), cutL, if_pos hy]
      rfl
    · have ih := l2r_ev x hx d (q ++ [y]) (by rw [h, List.append_assoc]; rfl) (r := r) (by
        rw [cutL, if_neg hy] at hr
        refine Ev.congr (fun k => ?_) hr
        congr 1
        rw [List.length_append]
        simp only [List.length_cons, List.length_nil]
        omega)
      refine Ev.step (fun k => ?_) ih
      simp only [wicketref11_Basic.l2]
      rw [if_pos h1, if_pos (by omega), h2, if_neg (fun e => hy (UInt8.toNat_inj.1 (by exact Int.ofNat.inj e))), w64 (by omega) (by omega), List.length_append]
      rfl
theorem j5_yes (x : ByteArray) (hx : x.size ≤ 65536) : Ev (fun k => wicketref11_Basic.j5 k x (!true)) (saidP x.data.toList) := by
  have hl : x.data.toList.length = x.size := by simp
  have h1 := cutL_len 58 x.data.toList
  have hsp := cutL_spec 58 x.data.toList
  refine Ev.step (f := fun k => wicketref11_Basic.l2 k x (([] : List UInt8).length : Int)) (fun k => by simp only [wicketref11_Basic.j5, Bool.not_true, Bool.false_eq_true, if_false]; rfl) (l2r_ev x hx x.data.toList [] rfl ?_)
  rw [List.length_nil, Nat.zero_add]
  unfold saidP
  by_cases c1 : (cutL 58 x.data.toList).2.2 = true
  · have hs := hsp.1 c1
    have hn : x.size = (cutL 58 x.data.toList).1.length + ((cutL 58 x.data.toList).2.1.length + 1) := by
      have := congrArg List.length hs
      rw [hl, List.length_append, List.length_cons] at this
      exact this
    have e1 : x.extract 0 ((((cutL 58 x.data.toList).1.length : Nat) : Int)).toNat = bs (cutL 58 x.data.toList).1 := by
      apply ba_ext
      rw [Lib.extract_data, bs_data, Int.toNat_natCast, List.drop_zero, Nat.sub_zero]
      exact take_of hs
    have e2 : x.extract (((((cutL 58 x.data.toList).1.length + 1 : Nat)) : Int)).toNat x.size = bs (cutL 58 x.data.toList).2.1 := by
      apply ba_ext
      rw [Lib.extract_data, bs_data, Int.toNat_natCast, drop_of hs, List.take_of_length_le (by omega)]
    have u1 := refun_ev (bs (cutL 58 x.data.toList).1) (by rw [bs_size]; omega)
    have u2 := refun_ev (bs (cutL 58 x.data.toList).2.1) (by rw [bs_size]; omega)
    rw [bs_data] at u1 u2
    refine Ev.step (fun k => ?_) (f := fun k => (wicketref03_Unescape.f k (bs (cutL 58 x.data.toList).1)).bind fun bt468 => (wicketref03_Unescape.f k (bs (cutL 58 x.data.toList).2.1)).bind fun bt471 => (if bt468.2.1 = 0 then (if bt471.2.1 = 0 then (some (bt468.1, bt471.1, 0)) else (some ((⟨#[]⟩ : ByteArray), (⟨#[]⟩ : ByteArray), 113))) else (some ((⟨#[]⟩ : ByteArray), (⟨#[]⟩ : ByteArray), 113)))) ?_
    · simp only [wicketref11_Basic.j7]
      rw [if_neg (by omega), if_pos (by omega), if_pos (by omega), e1, w64 (by omega) (by omega), show ((((cutL 58 x.data.toList).1.length : Nat) : Int) + 1) = (((cutL 58 x.data.toList).1.length + 1 : Nat) : Int) from rfl]
      congr 1
      funext bt468
      rw [if_pos (by omega), if_pos (by omega), e2]
    · refine Ev.bind u1 (Ev.bind u2 ?_)
      by_cases c2 : (unescL (cutL 58 x.data.toList).1 0 []).2.1 = 0
      · refine Ev.pos c2 ?_
        by_cases c3 : (unescL (cutL 58 x.data.toList).2.1 0 []).2.1 = 0
        · exact Ev.eq (Ev.pos c3 (Ev.now _)) (if_pos ⟨c1, c2, c3⟩).symm
        · exact Ev.eq (Ev.neg c3 (Ev.now _)) (if_neg (fun h => c3 h.2.2)).symm
      · exact Ev.eq (Ev.neg c2 (Ev.now _)) (if_neg (fun h => c2 h.2.1)).symm
  · have hs := hsp.2 (by simpa using c1)
    rw [if_neg (fun h => c1 h.1), hs, hl]
    refine Ev.step (fun k => ?_) (Ev.now _)
    simp only [wicketref11_Basic.j7, if_true]
theorem bt_drop {s : ByteArray} {d : List UInt8} {y : UInt8} {i : Nat} (h : s.data.toList.drop i = y :: d) : (i : Int) < (s.size : Int) ∧ bt s (i : Int) = (y.toNat : Int) ∧ s.data.toList.drop (i + 1) = d := by
  have h1 : s.data.toList.length = s.size := by simp
  have hi : i < s.data.toList.length := by
    apply Classical.byContradiction
    intro hn
    rw [List.drop_eq_nil_of_le (by omega)] at h
    cases h
  have h2 := List.drop_eq_getElem_cons hi
  rw [h] at h2
  injection h2 with ha hb
  have h3 : s.data.toList = s.data.toList.take i ++ y :: d := by rw [← h]; exact (List.take_append_drop i _).symm
  have h4 := bt_at' h3
  rw [List.length_take, Nat.min_eq_left (by omega)] at h4
  exact ⟨h4.1, h4.2, hb.symm⟩
theorem fold_low (c y : UInt8) (hy : 97 ≤ y.toNat ∧ y.toNat ≤ 122) : Lib.foldEq c y = true ↔ if 65 ≤ c.toNat ∧ c.toNat ≤ 90 then c.toNat + 32 = y.toNat else c.toNat = y.toNat := by
  unfold Lib.foldEq
  rw [decide_eq_true_iff]
  split <;> omega
abbrev WB : ByteArray := ⟨#[98, 97, 115, 105, 99]⟩
theorem step_i {r : ByteArray × ByteArray × Int} (h : ByteArray) (i : Nat) (hi : i < 5) (c y : UInt8) (hc : (i : Int) < (h.size : Int) ∧ bt h (i : Int) = (c.toNat : Int)) (hb : bt WB (i : Int) = (y.toNat : Int)) (hy : 97 ≤ y.toNat ∧ y.toNat ≤ 122)
    (hn : Lib.foldEq c y = true → Ev (fun k => wicketref11_Basic.l0 k h WB ((i + 1 : Nat) : Int)) r) (he : Lib.foldEq c y = false → r = E3) : Ev (fun k => wicketref11_Basic.l0 k h WB (i : Int)) r := by
  have hlt := c.toNat_lt
  have hf := fold_low c y hy
  have hW : WB.size = 5 := rfl
  by_cases hu : 65 ≤ c.toNat ∧ c.toNat ≤ 90
  · rw [if_pos hu] at hf
    have e1 : ((((c.toNat : Int) - 65) % 256) + 97) % 256 = ((c.toNat + 32 : Nat) : Int) := by omega
    refine Ev.step (f := fun k => wicketref11_Basic.j2 k h WB (i : Int) (c.toNat : Int) true) (fun k => ?_) ?_
    · simp only [wicketref11_Basic.l0]
      rw [if_pos (by omega), if_pos (by omega), if_pos hc.1, hc.2, if_pos (by omega), decide_eq_true (show (c.toNat : Int) ≤ 90 by omega)]
    by_cases hx : Lib.foldEq c y = true
    · refine Ev.step (fun k => ?_) (hn hx)
      simp only [wicketref11_Basic.j2, if_true]
      rw [if_pos (by omega), if_pos (by rw [hW]; omega), hb, e1, if_pos (by have := hf.1 hx; omega), w64 (by omega) (by omega)]
      rfl
    · rw [he (by simpa using hx)]
      refine Ev.step (fun k => ?_) (Ev.now _)
      simp only [wicketref11_Basic.j2, if_true]
      rw [if_pos (by omega), if_pos (by rw [hW]; omega), hb, e1, if_neg (fun e => hx (hf.2 (by omega)))]
  · rw [if_neg hu] at hf
    refine Ev.step (f := fun k => wicketref11_Basic.j2 k h WB (i : Int) (c.toNat : Int) false) (fun k => ?_) ?_
    · simp only [wicketref11_Basic.l0]
      rw [if_pos (by omega), if_pos (by omega), if_pos hc.1, hc.2]
      by_cases h6 : (c.toNat : Int) ≥ 65
      · rw [if_pos h6, decide_eq_false (show ¬ (c.toNat : Int) ≤ 90 by omega)]
      · rw [if_neg h6]
    by_cases hx : Lib.foldEq c y = true
    · refine Ev.step (fun k => ?_) (hn hx)
      simp only [wicketref11_Basic.j2, Bool.false_eq_true, if_false]
      rw [if_pos (by omega), if_pos (by rw [hW]; omega), hb, if_pos (by have := hf.1 hx; omega), w64 (by omega) (by omega)]
      rfl
    · rw [he (by simpa using hx)]
      refine Ev.step (fun k => ?_) (Ev.now _)
      simp only [wicketref11_Basic.j2, Bool.false_eq_true, if_false]
      rw [if_pos (by omega), if_pos (by rw [hW]; omega), hb, if_neg (fun e => hx (hf.2 (by omega)))]
theorem l1r_ev {r : ByteArray × ByteArray × Int} (h : ByteArray) (hs : h.size ≤ 65536) : ∀ (d : List UInt8) (i : Nat), h.data.toList.drop i = d → i ≤ h.size → (∀ j, i ≤ j → j ≤ h.size → h.data.toList.drop j = d.dropWhile (· == 32) → (d.head? = some 32 → i < j) → (d.head? ≠ some 32 → i = j) → Ev (fun k => wicketref11_Basic.j4 k h (j : Int)) r) → Ev (fun k => wicketref11_Basic.l1 k h (i : Int)) r
  | [], i, hd, hi, hr => by
    have h1 : h.data.toList.length = h.size := by simp
    have h2 : h.size ≤ i := by
      have := congrArg List.length hd
      rw [List.length_drop, List.length_nil] at this
      omega
    refine Ev.step (fun k => ?_) (hr i (Nat.le_refl _) hi hd (fun e => by cases e) (fun _ => rfl))
    simp only [wicketref11_Basic.l1]
    rw [if_neg (by omega)]
  | y :: d, i, hd, hi, hr => by
    obtain ⟨h1, h2, h3⟩ := bt_drop hd
    by_cases hy : y = 32
    · subst hy
      have ih := l1r_ev (r := r) h hs d (i + 1) h3 (by omega) (fun j a b c e f => hr j (by omega) b (by rw [c]; rfl) (fun _ => by omega) (fun g => absurd rfl g))
      refine Ev.step (fun k => ?_) ih
      simp only [wicketref11_Basic.l1]
      rw [if_pos h1, if_pos (by omega), h2, if_pos (by decide), w64 (by omega) (by omega)]
      rfl
    · have hy' : (y == 32) = false := by simpa using hy
      refine Ev.step (fun k => ?_) (hr i (Nat.le_refl _) hi (by rw [hd, List.dropWhile_cons, hy']; rfl) (fun e => absurd (Option.some.inj e) hy) (fun _ => rfl))
      simp only [wicketref11_Basic.l1]
      rw [if_pos h1, if_pos (by omega), h2, if_neg (fun e => hy (UInt8.toNat_inj.1 (by exact Int.ofNat.inj e)))]
theorem dec_both (t : ByteArray) (ht : t.size ≤ 65536) : ∃ x ok y ok', Ev (fun k => client_common.f k t) (x, ok) ∧ x.size ≤ 65536 ∧ Ev (fun k => wicketref11_decoded.f k t) (y, ok') ∧ ok = ok' ∧ (ok = true → x = y) := by
  by_cases h4 : t.size % 4 = 0
  · obtain ⟨m, p, hb⟩ := bare_of t.data.toList
    obtain ⟨x, ok, h1, h2, h3⟩ := common_ev ht hb h4
    obtain ⟨y, ok', g1, g2⟩ := decoded_ev ht hb h4
    refine ⟨x, ok, y, ok', h1, h3, g1, ?_⟩
    cases ho : decB (nN m) with
    | none => rw [ho] at h2 g2; exact ⟨h2.trans g2.symm, fun e => absurd (e.symm.trans h2) (by decide)⟩
    | some q => rw [ho] at h2 g2; exact ⟨h2.1.trans g2.1.symm, fun _ => h2.2.trans g2.2.symm⟩
  · refine ⟨⟨#[]⟩, false, ⟨#[]⟩, false, ?_, by decide, ?_, rfl, fun _ => rfl⟩
    · unfold client_common.f
      exact Ev.neg (by omega) (Ev.step (f := fun _ => some ((⟨#[]⟩ : ByteArray), false)) (fun k => by simp only [client_common.j0, if_true]) (Ev.now _))
    · unfold wicketref11_decoded.f
      exact Ev.neg (by omega) (Ev.now _)
theorem fold_ascii {c y : UInt8} (h : Lib.foldEq c y = true) (hy : y.toNat < 128) : c.toNat < 128 := by
  unfold Lib.foldEq at h
  have := of_decide_eq_true h
  omega
theorem saidP_sz (x : ByteArray) (hx : x.size ≤ 65536) : (saidP x.data.toList).1.size ≤ 65536 ∧ (saidP x.data.toList).2.1.size ≤ 65536 := by
  have hl : x.data.toList.length = x.size := by simp
  have h1 := cutL_len 58 x.data.toList
  have u1 := (unescL_place _ (cutL 58 x.data.toList).1 (Nat.le_refl _) 0 []).2.2.2.2
  have u2 := (unescL_place _ (cutL 58 x.data.toList).2.1 (Nat.le_refl _) 0 []).2.2.2.2
  simp only [List.length_nil] at u1 u2
  unfold saidP
  split
  · simp only [bs_size]; omega
  · exact ⟨by decide, by decide⟩
theorem basic_all (h : ByteArray) : ∃ r : ByteArray × ByteArray × Int, ((h.size ≤ 1024 → 6 ≤ h.size → asciiS (h.extract 0 5) = true) → Ev (fun k => client_Basic.f k h) r) ∧ Ev (fun k => wicketref11_Basic.f k h) r ∧ (h.size ≤ 1024 → 6 ≤ h.size → asciiS (h.extract 0 5) = false → r = E3) ∧ r.1.size ≤ 65536 ∧ r.2.1.size ≤ 65536 := by
  have pj0 : Ev (fun k => client_Basic.j0 k h true) E3 := Ev.step (f := fun _ => some E3) (fun k => by simp only [client_Basic.j0, if_true]) (Ev.now _)
  have rj0 : Ev (fun k => wicketref11_Basic.j0 k h WB true) E3 := Ev.step (f := fun _ => some E3) (fun k => by simp only [wicketref11_Basic.j0, if_true]) (Ev.now _)
  unfold client_Basic.f wicketref11_Basic.f
  by_cases h1 : (h.size : Int) > 1024
  · exact ⟨E3, fun _ => Ev.pos h1 pj0, Ev.pos h1 rj0, fun _ _ _ => rfl, by decide, by decide⟩
  by_cases h2 : (h.size : Int) < 6
  · refine ⟨E3, fun _ => Ev.neg h1 (Ev.pos h2 pj0), Ev.neg h1 ?_, fun _ _ _ => rfl, by decide, by decide⟩
    rw [decide_eq_true h2]; exact rj0
  have hl : h.data.toList.length = h.size := by simp
  obtain ⟨c0, l1, e0, g0⟩ : ∃ x r, h.data.toList = x :: r ∧ 5 ≤ r.length := by
    match hh : h.data.toList with
    | [] => rw [hh] at hl; simp at hl; omega
    | x :: r => rw [hh, List.length_cons] at hl; exact ⟨x, r, rfl, by omega⟩
  obtain ⟨c1, l2, rfl, g1⟩ : ∃ x r, l1 = x :: r ∧ 4 ≤ r.length := by
    match l1, g0 with
    | x :: r, g => exact ⟨x, r, rfl, by simpa using g⟩
  obtain ⟨c2, l3, rfl, g2⟩ : ∃ x r, l2 = x :: r ∧ 3 ≤ r.length := by
    match l2, g1 with
    | x :: r, g => exact ⟨x, r, rfl, by simpa using g⟩
  obtain ⟨c3, l4, rfl, g3⟩ : ∃ x r, l3 = x :: r ∧ 2 ≤ r.length := by
    match l3, g2 with
    | x :: r, g => exact ⟨x, r, rfl, by simpa using g⟩
  obtain ⟨c4, l5, rfl, g4⟩ : ∃ x r, l4 = x :: r ∧ 1 ≤ r.length := by
    match l4, g3 with
    | x :: r, g => exact ⟨x, r, rfl, by simpa using g⟩
  obtain ⟨c5, l6, rfl, g5⟩ : ∃ x r, l5 = x :: r ∧ 0 ≤ r.length := by
    match l5, g4 with
    | x :: r, g => exact ⟨x, r, rfl, by omega⟩
  have hx5 : (h.extract 0 5).data.toList = [c0, c1, c2, c3, c4] := by rw [Lib.extract_data, e0]; rfl
  have hEF (hasc : h.size ≤ 1024 → 6 ≤ h.size → asciiS (h.extract 0 5) = true) : strings_EqualFold.f (h.extract 0 5) WB = some (Lib.equalFold [c0, c1, c2, c3, c4] [98, 97, 115, 105, 99]) := by
    unfold strings_EqualFold.f
    rw [if_pos ⟨by have : (h.extract 0 5).size = (h.extract 0 5).data.toList.length := by simp
                   rw [this, hx5]; show (5 : Nat) < _; omega, hasc (by omega) (by omega), by decide⟩, hx5]
  have b0 := bt_drop (i := 0) e0
  have b1 := bt_drop (i := 1) b0.2.2
  have b2 := bt_drop (i := 2) b1.2.2
  have b3 := bt_drop (i := 3) b2.2.2
  have b4 := bt_drop (i := 4) b3.2.2
  have b5 := bt_drop (i := 5) b4.2.2
  have hP (hasc : h.size ≤ 1024 → 6 ≤ h.size → asciiS (h.extract 0 5) = true) {r : ByteArray × ByteArray × Int} (hr : Ev (fun k => if Lib.equalFold [c0, c1, c2, c3, c4] [98, 97, 115, 105, 99] = true then client_Basic.j0 k h ((c5.toNat : Int) != 32) else client_Basic.j0 k h true) r) :
      Ev (fun k => if (h.size : Int) > 1024 then (client_Basic.j0 k h true) else (if (h.size : Int) < 6 then (client_Basic.j0 k h true) else (if 0 ≤ 5 then (if 5 ≤ (h.size : Int) then ((strings_EqualFold.f (h.extract 0 5) (⟨#[98, 97, 115, 105, 99]⟩ : ByteArray)).bind fun t209 => (if t209 = true then (if 5 < (h.size : Int) then (client_Basic.j0 k h ((bt h 5) != 32)) else (none)) else (client_Basic.j0 k h true))) else (none)) else (none)))) r := by
    refine Ev.neg h1 (Ev.neg h2 (Ev.pos (by omega) (Ev.pos (by omega) (Ev.bind (Ev.congr (fun _ => hEF hasc) (Ev.now _)) ?_))))
    refine Ev.congr (fun k => ?_) hr
    rw [if_pos (show (5 : Int) < (h.size : Int) from b5.1), show bt h 5 = (c5.toNat : Int) from b5.2.1]
  have hR {r : ByteArray × ByteArray × Int} (hr : Lib.equalFold [c0, c1, c2, c3, c4] [98, 97, 115, 105, 99] = true → Ev (fun k => wicketref11_Basic.l1 k h ((5 : Nat) : Int)) r) (he : Lib.equalFold [c0, c1, c2, c3, c4] [98, 97, 115, 105, 99] = false → r = E3) :
      Ev (fun k => if (h.size : Int) > 1024 then (wicketref11_Basic.j0 k h WB true) else (wicketref11_Basic.j0 k h WB (decide ((h.size : Int) < 6)))) r := by
    refine Ev.neg h1 ?_
    rw [decide_eq_false h2]
    refine Ev.step (f := fun k => wicketref11_Basic.l0 k h WB ((0 : Nat) : Int)) (fun k => by simp only [wicketref11_Basic.j0, Bool.false_eq_true, if_false]; rfl) ?_
    refine step_i h 0 (by omega) c0 98 ⟨b0.1, b0.2.1⟩ (by decide) (by decide) (fun f0 => ?_) (fun f0 => he (by simp [Lib.equalFold, f0]))
    refine step_i h 1 (by omega) c1 97 ⟨b1.1, b1.2.1⟩ (by decide) (by decide) (fun f1 => ?_) (fun f1 => he (by simp [Lib.equalFold, f1]))
    refine step_i h 2 (by omega) c2 115 ⟨b2.1, b2.2.1⟩ (by decide) (by decide) (fun f2 => ?_) (fun f2 => he (by simp [Lib.equalFold, f2]))
    refine step_i h 3 (by omega) c3 105 ⟨b3.1, b3.2.1⟩ (by decide) (by decide) (fun f3 => ?_) (fun f3 => he (by simp [Lib.equalFold, f3]))
    refine step_i h 4 (by omega) c4 99 ⟨b4.1, b4.2.1⟩ (by decide) (by decide) (fun f4 => ?_) (fun f4 => he (by simp [Lib.equalFold, f4]))
    refine Ev.step (fun k => ?_) (hr (by simp [Lib.equalFold, f0, f1, f2, f3, f4]))
    simp only [wicketref11_Basic.l0]
    rw [if_neg (by omega)]
    rfl
  by_cases hq' : Lib.equalFold [c0, c1, c2, c3, c4] [98, 97, 115, 105, 99] = false
  · have hq : ¬ Lib.equalFold [c0, c1, c2, c3, c4] [98, 97, 115, 105, 99] = true := by rw [hq']; decide
    exact ⟨E3, fun ha => hP ha (Ev.neg hq pj0), hR (fun e => absurd e hq) (fun _ => rfl), fun _ _ _ => rfl, by decide, by decide⟩
  have hq : Lib.equalFold [c0, c1, c2, c3, c4] [98, 97, 115, 105, 99] = true := by simpa using hq'
  let T : ByteArray := ⟨(Lib.trimLeftB (h.data.toList.drop 5) 32).toArray⟩
  have hTl : T.data.toList = (c5 :: l6).dropWhile (· == 32) := by show (Lib.trimLeftB (h.data.toList.drop 5) 32).toArray.toList = _; rw [b4.2.2]; rfl
  have hTs : T.size ≤ 1024 := by
    have e1 : T.size = T.data.toList.length := by simp
    have e2 : ((c5 :: l6).dropWhile (· == 32)).length ≤ (c5 :: l6).length := (List.dropWhile_sublist _).length_le
    have e3 : (c5 :: l6).length ≤ h.size := by rw [← hl, e0]; simp
    rw [e1, hTl]; omega
  obtain ⟨x, ok, y, ok', d1, d2, d3, d4, d5⟩ := dec_both T (by omega)
  subst d4
  refine ⟨if c5 = 32 ∧ ok = true then saidP x.data.toList else E3, fun ha => hP ha (Ev.pos hq ?_), hR (fun _ => ?_) (fun e => absurd hq (by simp [e])), fun _ _ hw => ?_, ?_⟩
  · by_cases h5 : c5 = 32
    · rw [show ((c5.toNat : Int) != 32) = false by rw [h5]; rfl]
      refine Ev.step (f := fun k => (client_common.f k T).bind fun bt211 => ((strings_Cut.f bt211.1 (⟨#[58]⟩ : ByteArray)).bind fun bt213 => ((urlform_Unescape.f bt213.1).bind fun bt216 => ((urlform_Unescape.f bt213.2.1).bind fun bt219 => (if bt211.2 = true then (if bt213.2.2 = true then (if bt216.2.1 = 0 then (if bt219.2.1 = 0 then (some (bt216.1, bt219.1, 0)) else (some ((⟨#[]⟩ : ByteArray), (⟨#[]⟩ : ByteArray), 113))) else (some ((⟨#[]⟩ : ByteArray), (⟨#[]⟩ : ByteArray), 113))) else (some ((⟨#[]⟩ : ByteArray), (⟨#[]⟩ : ByteArray), 113))) else (some ((⟨#[]⟩ : ByteArray), (⟨#[]⟩ : ByteArray), 113))))))) (fun k => ?_) ?_
      · simp only [client_Basic.j0, Bool.false_eq_true, if_false]
        rw [if_pos (by omega), show strings_TrimLeft.f (h.extract 5 h.size) (⟨#[32]⟩ : ByteArray) = some T from by
          unfold strings_TrimLeft.f
          rw [if_pos ⟨rfl, by decide⟩, Lib.extract_data, List.take_of_length_le (by rw [List.length_drop]; omega)]
          rfl, Option.bind_some]
      · refine Ev.bind d1 (Ev.congr (fun _ => tailP x ok d2) (Ev.eq (Ev.now _) ?_))
        by_cases ho : ok = true
        · rw [if_pos ho, if_pos ⟨h5, ho⟩]
        · rw [if_neg ho, if_neg (fun e => ho e.2)]
    · rw [if_neg (fun e => h5 e.1), show ((c5.toNat : Int) != 32) = true by
        rw [bne_iff_ne]; exact fun e => h5 (UInt8.toNat_inj.1 (by exact Int.ofNat.inj e))]
      exact pj0
  · refine l1r_ev h (by omega) _ 5 b4.2.2 (by omega) (fun j a b c e f => ?_)
    have hj : h.extract ((j : Int)).toNat h.size = T := by
      apply ba_ext
      rw [hTl, ← c, Lib.extract_data, Int.toNat_natCast, List.take_of_length_le (by rw [List.length_drop]; omega)]
    refine Ev.step (f := fun k => (wicketref11_decoded.f k T).bind fun bt466 => (if (j : Int) = 5 then (wicketref11_Basic.j5 k bt466.1 true) else (wicketref11_Basic.j5 k bt466.1 (!bt466.2)))) (fun k => ?_) (Ev.bind d3 ?_)
    · simp only [wicketref11_Basic.j4]
      rw [if_pos (by omega), if_pos (by omega), hj]
    · have j5e (z : ByteArray) : Ev (fun k => wicketref11_Basic.j5 k z true) E3 := Ev.step (f := fun _ => some E3) (fun k => by simp only [wicketref11_Basic.j5, if_true]) (Ev.now _)
      by_cases h5 : c5 = 32
      · have := e (by rw [h5]; rfl)
        refine Ev.neg (by omega) ?_
        by_cases ho : ok = true
        · rw [if_pos ⟨h5, ho⟩, ho]
          rw [← d5 ho]
          exact j5_yes x d2
        · rw [if_neg (fun e => ho e.2), show ok = false by simpa using ho]
          exact j5e y
      · have := f (fun e => h5 (Option.some.inj e))
        rw [if_neg (fun e => h5 e.1)]
        exact Ev.pos (by omega) (j5e y)
  · exfalso
    simp only [Lib.equalFold, Bool.and_eq_true, Bool.and_true] at hq
    have q0 := fold_ascii hq.1 (by decide)
    have q1 := fold_ascii hq.2.1 (by decide)
    have q2 := fold_ascii hq.2.2.1 (by decide)
    have q3 := fold_ascii hq.2.2.2.1 (by decide)
    have q4 := fold_ascii hq.2.2.2.2 (by decide)
    unfold asciiS at hw
    rw [hx5] at hw
    simp [q0, q1, q2, q3, q4] at hw
  · split
    · exact saidP_sz x d2
    · exact ⟨by decide, by decide⟩
end Go.Proofs.YtmimipgmhgalaaaGreatDoor.Pure
end
section
namespace Go.Proofs.YtmimipgmhgalaaaGreatDoor.Pure
open Go.RowKit Go.Proofs.YtmimipgmhgalaaaGreatDoorW.PrintWords Go.Proofs.YtmimipgmhgalaaaGreatDoor.Plain Go.Proofs.YtmimipgmhgalaaaGreatDoor.PAll
set_option linter.unusedSimpArgs false
set_option linter.unusedVariables false
abbrev CC := S40
abbrev CR := S43
def toR (x : CC) : CR := ⟨x.f0, x.f1, x.f2, x.f3, x.f4, x.f5⟩
def SmallC (l : List CC) : Prop := l.length ≤ 1599289640400 ∧ ∀ x ∈ l, x.f5.length ≤ 4000000000000
theorem ours_q (i s : ByteArray) (gr : Int) (pg : Bool) (u : ByteArray) (sc : List ByteArray) (h : sc.length ≤ 4000000000000) : wicketlaw11_ours.f i s gr pg u sc = some (i, s, gr, pg, u, sc) := by
  unfold wicketlaw11_ours.f
  rw [Option.bind_some, if_pos (by simp; omega)]
  rfl
theorem theirs_q (i s : ByteArray) (gr : Int) (pg : Bool) (u : ByteArray) (sc : List ByteArray) (h : sc.length ≤ 4000000000000) : wicketlaw11_theirs.f i s gr pg u sc = some (i, s, gr, pg, u, sc) := by
  unfold wicketlaw11_theirs.f
  rw [Option.bind_some, if_pos (by simp; omega)]
  rfl
theorem rdC (l : List CC) (i : Nat) (h : i < l.length) : rd_T40 l (i : Int) = l[i] := by
  unfold rd_T40; rw [Int.toNat_natCast, List.getD_eq_getElem?_getD, List.getElem?_eq_getElem h]; rfl
theorem rdR (l : List CR) (i : Nat) (h : i < l.length) : rd_T43 l (i : Int) = l[i] := by
  unfold rd_T43; rw [Int.toNat_natCast, List.getD_eq_getElem?_getD, List.getElem?_eq_getElem h]; rfl
theorem take_snoc {α : Type} (l : List α) (i : Nat) (h : i < l.length) : l.take i ++ [l[i]] = l.take (i + 1) := by rw [List.take_add_one, List.getElem?_eq_getElem h]; rfl
theorem copied_ev (l : List CC) (hl : SmallC l) : Ev (fun k => wicketlaw11_copied.f k l) l := by
  have h : ∀ (m i : Nat), i + m = l.length → Ev (fun k => wicketlaw11_copied.l0 k l (l.take i) (i : Int)) l := by
    intro m
    induction m with
    | zero =>
      intro i hi
      refine Ev.step (f := fun _ => some l) (fun k => ?_) (Ev.now _)
      simp only [wicketlaw11_copied.l0]; rw [if_neg (by omega), List.take_of_length_le (by omega)]
    | succ m ih =>
      intro i hi
      have hlt : i < l.length := by omega
      have h1 := hl.1
      refine Ev.step (f := fun k => wicketlaw11_copied.l0 k l (l.take (i + 1)) ((i + 1 : Nat) : Int)) (fun k => ?_) (ih (i + 1) (by omega))
      simp only [wicketlaw11_copied.l0]
      rw [if_pos (by omega), if_pos (by omega), rdC _ _ hlt, ours_q _ _ _ _ _ _ (hl.2 _ (List.getElem_mem hlt)), Option.bind_some, theirs_q _ _ _ _ _ _ (hl.2 _ (List.getElem_mem hlt)), Option.bind_some, if_pos (by rw [List.length_take]; omega), w64 (by omega) (by omega), ← take_snoc l i hlt]
      rfl
  exact h l.length 0 (by omega)
theorem all_ev (l : List CC) (hl : SmallC l) : Ev (fun k => wicketlaw11_all.f k l) (l.map toR) := by
  have h : ∀ (m i : Nat), i + m = l.length → Ev (fun k => wicketlaw11_all.l0 k l ((l.take i).map toR) (i : Int)) (l.map toR) := by
    intro m
    induction m with
    | zero =>
      intro i hi
      refine Ev.step (f := fun _ => some (l.map toR)) (fun k => ?_) (Ev.now _)
      simp only [wicketlaw11_all.l0]; rw [if_neg (by omega), List.take_of_length_le (by omega)]
    | succ m ih =>
      intro i hi
      have hlt : i < l.length := by omega
      have h1 := hl.1
      refine Ev.step (f := fun k => wicketlaw11_all.l0 k l ((l.take (i + 1)).map toR) ((i + 1 : Nat) : Int)) (fun k => ?_) (ih (i + 1) (by omega))
      simp only [wicketlaw11_all.l0]
      rw [if_pos (by omega), if_pos (by omega), rdC _ _ hlt, ours_q _ _ _ _ _ _ (hl.2 _ (List.getElem_mem hlt)), Option.bind_some, if_pos (by rw [List.length_map, List.length_take]; omega), w64 (by omega) (by omega), ← take_snoc l i hlt, List.map_append]
      rfl
  exact h l.length 0 (by omega)
theorem same_ev (i s : ByteArray) (gr : Int) (pg : Bool) (u : ByteArray) (sc : List ByteArray) (hs : sc.length ≤ 4000000000000) : Ev (fun k => wicketlaw11_same.f k i s gr pg u sc i s gr pg u sc) true := by
  have h : ∀ (m j : Nat), j + m = sc.length → Ev (fun k => wicketlaw11_same.l0 k (j : Int) i s gr pg u sc i s gr pg u sc) true := by
    intro m
    induction m with
    | zero =>
      intro j hj
      refine Ev.step (f := fun _ => some true) (fun k => ?_) (Ev.now _)
      simp only [wicketlaw11_same.l0]; rw [if_neg (by omega)]
    | succ m ih =>
      intro j hj
      have hlt : j < sc.length := by omega
      refine Ev.step (f := fun k => wicketlaw11_same.l0 k ((j + 1 : Nat) : Int) i s gr pg u sc i s gr pg u sc) (fun k => ?_) (ih (j + 1) (by omega))
      simp only [wicketlaw11_same.l0]
      rw [if_pos (by omega), if_pos (by omega), if_pos (by omega), if_true, w64 (by omega) (by omega)]
      rfl
  unfold wicketlaw11_same.f
  simp only [if_true, bne_self_eq_false, if_false, Bool.false_eq_true]
  refine Ev.step (f := fun k => wicketlaw11_same.l0 k (0 : Int) i s gr pg u sc i s gr pg u sc) (fun k => ?_) (h sc.length 0 (by omega))
  simp only [wicketlaw11_same.j0, Bool.false_eq_true, if_false]
def zeroC : CC := ⟨⟨#[]⟩, ⟨#[]⟩, 0, false, ⟨#[]⟩, []⟩
def foundC (a : ByteArray) : List CC → CC × Bool
  | [] => (zeroC, false)
  | x :: r => if x.f0.toList = a.toList then (x, true) else foundC a r
theorem foundC_small (a : ByteArray) : ∀ l : List CC, (∀ x ∈ l, x.f5.length ≤ 4000000000000) → (foundC a l).1.f5.length ≤ 4000000000000
  | [], _ => by simp [foundC, zeroC]
  | x :: r, h => by
    unfold foundC
    split
    · exact h x (by simp)
    · exact foundC_small a r (fun y hy => h y (by simp [hy]))
theorem find_ev (l : List CC) (hl : SmallC l) (a : ByteArray) : Ev (fun k => client_Find.f k l a) ((foundC a l).1.f0, (foundC a l).1.f1, (foundC a l).1.f2, (foundC a l).1.f3, (foundC a l).1.f4, (foundC a l).1.f5, (foundC a l).2) := by
  have h : ∀ (m i : Nat), i + m = l.length → Ev (fun k => client_Find.l0 k a l (l.length : Int) (i : Int)) ((foundC a (l.drop i)).1.f0, (foundC a (l.drop i)).1.f1, (foundC a (l.drop i)).1.f2, (foundC a (l.drop i)).1.f3, (foundC a (l.drop i)).1.f4, (foundC a (l.drop i)).1.f5, (foundC a (l.drop i)).2) := by
    intro m
    induction m with
    | zero =>
      intro i hi
      refine Ev.step (f := fun _ => some _) (fun k => ?_) (Ev.now _)
      simp only [client_Find.l0]; rw [if_neg (by omega), List.drop_eq_nil_of_le (by omega)]; rfl
    | succ m ih =>
      intro i hi
      have hlt : i < l.length := by omega
      have h1 := hl.1
      have h2 := hl.2 _ (List.getElem_mem hlt)
      have e : l.drop i = l[i] :: l.drop (i + 1) := List.drop_eq_getElem_cons hlt
      by_cases hx : (l[i]).f0.toList = a.toList
      · refine Ev.step (f := fun _ => some _) (fun k => ?_) (Ev.now _)
        simp only [client_Find.l0]
        rw [if_pos (by omega), if_pos (by omega), if_pos (by omega), rdC _ _ hlt, if_pos hx, e]
        unfold client_copied.f slices_Clone_string_string.f
        rw [if_pos (by omega)]
        simp only [foundC, if_pos hx]
        rfl
      · have hn := ih (i + 1) (by omega)
        refine Ev.step (f := fun k => client_Find.l0 k a l (l.length : Int) ((i + 1 : Nat) : Int)) (fun k => ?_) ?_
        · simp only [client_Find.l0]
          rw [if_pos (by omega), if_pos (by omega), if_pos (by omega), rdC _ _ hlt, if_neg hx, w64 (by omega) (by omega)]
          rfl
        · rw [e]
          simp only [foundC, if_neg hx]
          exact hn
  exact h l.length 0 (by omega)
theorem rfind_ev (l : List CC) (hl : SmallC l) (a : ByteArray) : Ev (fun k => wicketref11_Find.f k (l.map toR) a) ((foundC a l).1.f0, (foundC a l).1.f1, (foundC a l).1.f2, (foundC a l).1.f3, (foundC a l).1.f4, (foundC a l).1.f5, (foundC a l).2) := by
  have h : ∀ (m i : Nat), i + m = l.length → Ev (fun k => wicketref11_Find.l0 k (l.map toR) a (i : Int)) ((foundC a (l.drop i)).1.f0, (foundC a (l.drop i)).1.f1, (foundC a (l.drop i)).1.f2, (foundC a (l.drop i)).1.f3, (foundC a (l.drop i)).1.f4, (foundC a (l.drop i)).1.f5, (foundC a (l.drop i)).2) := by
    intro m
    induction m with
    | zero =>
      intro i hi
      refine Ev.step (f := fun _ => some _) (fun k => ?_) (Ev.now _)
      simp only [wicketref11_Find.l0]; rw [if_neg (by rw [List.length_map]; omega), List.drop_eq_nil_of_le (by omega)]; rfl
    | succ m ih =>
      intro i hi
      have hlt : i < l.length := by omega
      have h1 := hl.1
      have e : l.drop i = l[i] :: l.drop (i + 1) := List.drop_eq_getElem_cons hlt
      have hr : rd_T43 (l.map toR) (i : Int) = toR l[i] := by rw [rdR _ _ (by rw [List.length_map]; omega), List.getElem_map]
      by_cases hx : (l[i]).f0.toList = a.toList
      · refine Ev.step (f := fun _ => some _) (fun k => ?_) (Ev.now _)
        simp only [wicketref11_Find.l0]
        rw [if_pos (by rw [List.length_map]; omega), if_pos (by omega), hr, if_pos (show (toR l[i]).f0.toList = a.toList from hx), e]
        simp only [foundC, if_pos hx]
        rfl
      · have hn := ih (i + 1) (by omega)
        refine Ev.step (f := fun k => wicketref11_Find.l0 k (l.map toR) a ((i + 1 : Nat) : Int)) (fun k => ?_) ?_
        · simp only [wicketref11_Find.l0]
          rw [if_pos (by rw [List.length_map]; omega), if_pos (by omega), hr, if_neg (show ¬ (toR l[i]).f0.toList = a.toList from hx), w64 (by omega) (by omega)]
          rfl
        · rw [e]
          simp only [foundC, if_neg hx]
          exact hn
  exact h l.length 0 (by omega)
def weightC (y : CC) : Nat := ((y.f0.size + 1) + (y.f1.size + 1) + 1 + 1 + (y.f4.size + 1) + ((y.f5.map fun y => (y.size + 1)).sum + 1) + 1)
theorem sum_names (l : List ByteArray) : l.length ≤ (l.map fun y => (y.size + 1)).sum := by
  induction l with
  | nil => simp
  | cons x r ih => simp only [List.map_cons, List.sum_cons, List.length_cons]; omega
theorem weight_ge (x : CC) : x.f5.length + 1 ≤ weightC x := by
  have := sum_names x.f5
  unfold weightC
  omega
theorem weight_mem (l : List CC) : l.length ≤ (l.map weightC).sum ∧ ∀ x ∈ l, weightC x ≤ (l.map weightC).sum := by
  induction l with
  | nil => simp
  | cons x r ih =>
    simp only [List.map_cons, List.sum_cons, List.length_cons]
    refine ⟨by have := ih.1; have := weight_ge x; omega, fun y hy => ?_⟩
    rcases List.mem_cons.1 hy with rfl | hy
    · omega
    · have := ih.2 y hy; omega
theorem smallC_of (l : List CC) (n : Nat) (h : (l.map weightC).sum ≤ n) (hn : n ≤ 1048576) : SmallC l := by
  have h1 := weight_mem l
  refine ⟨by have := h1.1; omega, fun x hx => ?_⟩
  have h2 := h1.2 x hx
  have h3 := weight_ge x
  omega
end Go.Proofs.YtmimipgmhgalaaaGreatDoor.Pure
end
section
namespace Go.Proofs.YtmimipgmhgalaaaGreatDoor.Pure
open Go.RowKit Go.Proofs.YtmimipgmhgalaaaGreatDoorW.PrintWords Go.Proofs.YtmimipgmhgalaaaGreatDoor.Plain Go.Proofs.YtmimipgmhgalaaaGreatDoor.Spec Go.Proofs.YtmimipgmhgalaaaGreatDoor.PAll
set_option linter.unusedSimpArgs false
set_option linter.unusedVariables false
def to61 (p : S68) : S121 := ⟨p.f0, p.f1⟩
def foldO (name : ByteArray) : List S68 → ByteArray → Nat → ByteArray × Bool × Int
  | [], v, n => if n > 1 then (⟨#[]⟩, false, 34) else (v, v.toList != [], 0)
  | p :: r, v, n => if p.f0.toList = name.toList then foldO name r p.f1 (n + 1) else foldO name r v n
theorem one_ev (l : List S68) (hl : l.length ≤ 4000000000000) (name : ByteArray) : ∀ (m i n : Nat) (v : ByteArray), i + m = l.length → n ≤ i → Ev (fun k => urlform_One.l0 k name v (n : Int) l (l.length : Int) (i : Int)) (foldO name (l.drop i) v n) := by
  intro m
  induction m with
  | zero =>
    intro i n v hi hn
    rw [List.drop_eq_nil_of_le (by omega)]
    unfold foldO
    refine Ev.step (f := fun _ => some _) (fun k => ?_) (Ev.now _)
    simp only [urlform_One.l0]
    rw [if_neg (by omega)]
    by_cases h : n > 1
    · rw [if_pos h, if_pos (by omega)]
    · rw [if_neg h, if_neg (by omega)]
  | succ m ih =>
    intro i n v hi hn
    have hlt : i < l.length := by omega
    have hrd : rd_T68 l (i : Int) = l[i] := by simp [rd_T68, hlt]
    rw [drop_cons l i hlt]
    unfold foldO
    have ih1 := ih (i + 1)
    generalize l[i] = p at *
    by_cases h : p.f0.toList = name.toList
    · rw [if_pos h]
      refine Ev.step (fun k => ?_) (ih1 (n + 1) p.f1 (by omega) (by omega))
      simp only [urlform_One.l0]
      rw [if_pos (by omega), if_pos (by omega), if_pos (by omega), hrd, if_pos h, w64 (by omega) (by omega), w64 (by omega) (by omega)]
      rfl
    · rw [if_neg h]
      refine Ev.step (fun k => ?_) (ih1 n v (by omega) (by omega))
      simp only [urlform_One.l0]
      rw [if_pos (by omega), if_pos (by omega), if_pos (by omega), hrd, if_neg h, w64 (by omega) (by omega)]
      rfl
theorem refone_ev (l : List S68) (hl : l.length ≤ 4000000000000) (name : ByteArray) : ∀ (m i n : Nat) (v : ByteArray), i + m = l.length → n ≤ i → Ev (fun k => wicketref03_One.l0 k (l.map to61) name (n : Int) v (i : Int)) (foldO name (l.drop i) v n) := by
  have hal : (l.map to61).length = l.length := List.length_map ..
  intro m
  induction m with
  | zero =>
    intro i n v hi hn
    rw [List.drop_eq_nil_of_le (by omega)]
    unfold foldO
    refine Ev.step (f := fun _ => some _) (fun k => ?_) (Ev.now _)
    simp only [wicketref03_One.l0]
    rw [if_neg (by omega)]
    by_cases h : n > 1
    · rw [if_pos h, if_pos (by omega)]
    · rw [if_neg h, if_neg (by omega)]
  | succ m ih =>
    intro i n v hi hn
    have hlt : i < l.length := by omega
    have hrd : rd_T121 (l.map to61) (i : Int) = to61 l[i] := by simp [rd_T121, hlt]
    rw [drop_cons l i hlt]
    unfold foldO
    have ih1 := ih (i + 1)
    generalize l[i] = p at *
    by_cases h : p.f0.toList = name.toList
    · rw [if_pos h]
      have h' : (to61 p).f0.toList = name.toList := h
      refine Ev.step (fun k => ?_) (ih1 (n + 1) p.f1 (by omega) (by omega))
      simp only [wicketref03_One.l0]
      rw [if_pos (by omega), if_pos (by omega), hrd, if_pos h', w64 (by omega) (by omega), w64 (by omega) (by omega)]
      rfl
    · rw [if_neg h]
      have h' : ¬ (to61 p).f0.toList = name.toList := h
      refine Ev.step (fun k => ?_) (ih1 n v (by omega) (by omega))
      simp only [wicketref03_One.l0]
      rw [if_pos (by omega), if_pos (by omega), hrd, if_neg h', w64 (by omega) (by omega)]
      rfl
end Go.Proofs.YtmimipgmhgalaaaGreatDoor.Pure
end
section
namespace Go.Proofs.YtmimipgmhgalaaaGreatDoor.PAll
open Go.RowKit Go.Proofs.YtmimipgmhgalaaaGreatDoorW.PrintWords Go.Proofs.YtmimipgmhgalaaaGreatDoorW.PrintLast Go.Proofs.YtmimipgmhgalaaaGreatDoorW.PrintMore
attribute [local go_sem] max2_int min2_int max_two min_two max_three min_three max_four min_four
set_option linter.unusedVariables false
set_option linter.unusedSimpArgs false
def client_proven.j0 : Nat → Int → ByteArray → ByteArray → ByteArray → Int → Bool → ByteArray → List ByteArray → Option (ByteArray × ByteArray × Int × Bool × ByteArray × List ByteArray × Int × Int)
 | 0, _, _, _, _, _, _, _, _ => none
 | k + 1, x1, x2, x225000, x225001, x225002, x225003, x225004, x225005 => (client_same.f x225001 x2).bind fun t226 => (if t226 = true then (if x225001.toList = ([] : List UInt8) then (some (x225000, x225001, x225002, x225003, x225004, x225005, 0, 0)) else (some (x225000, x225001, x225002, x225003, x225004, x225005, x1, 0))) else (some ((⟨#[]⟩ : ByteArray), (⟨#[]⟩ : ByteArray), 0, false, (⟨#[]⟩ : ByteArray), ([] : List ByteArray), 0, 112)))
def client_proven.f (k : Nat) (a0_0 : ByteArray) (a0_1 : ByteArray) (a0_2 : Int) (a0_3 : Bool) (a0_4 : ByteArray) (l0_5 : List ByteArray) (a1 : Int) (a2 : ByteArray) : Option (ByteArray × ByteArray × Int × Bool × ByteArray × List ByteArray × Int × Int) := if a1 = 1 then (if a0_1.toList = ([] : List UInt8) then (some ((⟨#[]⟩ : ByteArray), (⟨#[]⟩ : ByteArray), 0, false, (⟨#[]⟩ : ByteArray), ([] : List ByteArray), 0, 112)) else (client_proven.j0 k a1 a2 a0_0 a0_1 a0_2 a0_3 a0_4 l0_5)) else (if a1 = 2 then (client_proven.j0 k a1 a2 a0_0 a0_1 a0_2 a0_3 a0_4 l0_5) else (if a0_1.toList = ([] : List UInt8) then (some (a0_0, a0_1, a0_2, a0_3, a0_4, l0_5, 0, 0)) else (some (a0_0, a0_1, a0_2, a0_3, a0_4, l0_5, a1, 0))))
set_option maxHeartbeats 8000000 in
set_option maxRecDepth 100000 in
theorem client_proven.calls (k : Nat) (a0_0 : ByteArray) (a0_1 : ByteArray) (a0_2 : Int) (a0_3 : Bool) (a0_4 : ByteArray) (P0_5_ : Nat → Prop) (u9000_ : Value) (l0_5 : List ByteArray) (a1 : Int) (a2 : ByteArray) (r1 : ByteArray) (r2 : ByteArray) (r3 : Int) (r4 : Bool) (r5 : ByteArray) (r6 : List ByteArray) (r7 : Int) (r8 : Int) (w0 w : World) (hB : Below w0.heap.size w0 w) (ho0_5 : Kd.R Kd.string 9 w w0.heap.size P0_5_ u9000_ l0_5) (h : client_proven.f k a0_0 a0_1 a0_2 a0_3 a0_4 l0_5 a1 a2 = some (r1, r2, r3, r4, r5, r6, r7, r8)) :
 Calls Tryz.prog 70 #[.agg #[.string a0_0, .string a0_1, .int .i64 a0_2, .bool a0_3, .string a0_4, u9000_], .int .i64 a1, .string a2] w fun e w' => ∃ v5_ : Value, e = .returned (.tuple #[.agg #[.string r1, .string r2, .int .i64 r3, .bool r4, .string r5, v5_], .int .i64 r7, .int .i64 r8]) ∧ Kd.R Kd.string 9 w' w0.heap.size (fun k_ => (P0_5_ k_ ∨ w.heap.size ≤ k_)) v5_ r6 ∧ Below w0.heap.size w0 w' ∧ Kept w w' (fun k_ => P0_5_ k_) := by
 have hu40 := Tryz.underlying40
 have HO0_5 := Aside0.mk (show Kd.R Kd.string 9 w w0.heap.size (fun k_ => (P0_5_ k_ ∨ w.heap.size ≤ k_)) u9000_ l0_5 from Kd.R_mono ho0_5 (fun k_ hk => (.inl hk)))
 have HK := Aside0.mk (Kept.refl w (fun k_ => P0_5_ k_))
 have HW0 := Aside0.mk hB.size
 have HB := Aside0.mk hB
 clear hB
 have H : (if a1 = 1 then (if a0_1.toList = ([] : List UInt8) then (some ((⟨#[]⟩ : ByteArray), (⟨#[]⟩ : ByteArray), 0, false, (⟨#[]⟩ : ByteArray), ([] : List ByteArray), 0, 112)) else (client_proven.j0 k a1 a2 a0_0 a0_1 a0_2 a0_3 a0_4 l0_5)) else (if a1 = 2 then (client_proven.j0 k a1 a2 a0_0 a0_1 a0_2 a0_3 a0_4 l0_5) else (if a0_1.toList = ([] : List UInt8) then (some (a0_0, a0_1, a0_2, a0_3, a0_4, l0_5, 0, 0)) else (some (a0_0, a0_1, a0_2, a0_3, a0_4, l0_5, a1, 0))))) = some (r1, r2, r3, r4, r5, r6, r7, r8) := h
 clear h
 have HC4 := Aside0.mk H
 clear H
 obtain ⟨Ao5, co5, eo5⟩ := Kd.R_slice HO0_5.out
 subst eo5
 go_enter Tryz.func70, Tryz.ntmps70
 go_upto_block 2 with (first | ((with_reducible refine gate_dst (N := 3) rfl ?_); refine box_event (by rfl) (N := 3) (by rfl) (cs := #[.string a0_0, .string a0_1, .int .i64 a0_2, .bool a0_3, .string a0_4, .slice Ao5 l0_5.length co5]) (t := 40) (by go_simp) ?_; intro gb224 hg w6 hbox hb; replace HO0_5 := Aside0.mk (Kd.R_below HO0_5.out hb); have BK224 := Aside0.mk hbox; have GW224 := Aside0.mk ((by rw [hg]; exact (by exact HK.out.1) : w.heap.size ≤ gb224)); replace HK := Aside0.mk (Kept.below (S := (fun k_ => P0_5_ k_)) HK.out hb); have GE224 := Aside0.mk ((by rw [hg]; exact (below_size HB.out) : w0.heap.size ≤ gb224)); replace HB := Aside0.mk (below_step HB.out hb); clear hb hbox hg) | ((with_reducible refine gate_dst (N := 6) rfl ?_); refine box_event (by rfl) (N := 6) (by rfl) (cs := #[.string (⟨#[]⟩ : ByteArray), .string (⟨#[]⟩ : ByteArray), .int .i64 0, .bool false, .string (⟨#[]⟩ : ByteArray), .slice none 0 0]) (t := 40) (by go_simp) ?_; intro gb225 hg w7 hbox hb; replace HO0_5 := Aside0.mk (Kd.R_below HO0_5.out hb); have BK225 := Aside0.mk hbox; have GW225 := Aside0.mk ((by rw [hg]; exact (by exact HK.out.1) : w.heap.size ≤ gb225)); replace HK := Aside0.mk (Kept.below (S := (fun k_ => P0_5_ k_)) (by repeat ((with_reducible (exact HK.out)))) hb); have GE225 := Aside0.mk ((by rw [hg]; exact (below_size HB.out) : w0.heap.size ≤ gb225)); replace HB := Aside0.mk (below_step HB.out hb); have NB224_225 := Aside0.mk ((by rw [hg]; exact Nat.ne_of_lt (blk_lt BK224.out) : gb224 ≠ gb225)); have NB225_224 := Aside0.mk ((by rw [hg]; exact Nat.ne_of_gt (blk_lt BK224.out) : gb225 ≠ gb224)); replace BK224 := Aside0.mk (blk_below BK224.out hb); clear hb hbox hg))
 go_cut [] (fun wc => ∃ (kq : Nat) (x226000_3 : ByteArray) (x226001_3 : ByteArray) (x226002_3 : Int) (x226003_3 : Bool) (x226004_3 : ByteArray), Aside0 (client_proven.j0 kq a1 a2 a0_0 a0_1 a0_2 a0_3 a0_4 l0_5 = some (r1, r2, r3, r4, r5, r6, r7, r8)) ∧ Aside0 (kq ≤ k) ∧ Aside0 (Kd.R Kd.string 9 wc w0.heap.size (fun k_ => (P0_5_ k_ ∨ w.heap.size ≤ k_)) (.slice Ao5 l0_5.length co5) l0_5) ∧ Aside0 (wc.heap[gb224]? = some (.cells #[.string a0_0, .string a0_1, .int .i64 a0_2, .bool a0_3, .string a0_4, (.slice Ao5 l0_5.length co5)] 40 (0, 0))) ∧ Aside0 (wc.heap[gb225]? = some (.cells #[.string x226000_3, .string x226001_3, .int .i64 x226002_3, .bool x226003_3, .string x226004_3, (.slice none 0 0)] 40 (0, 0))) ∧ Aside0 (Kept w wc (fun k_ => P0_5_ k_)) ∧ Aside0 (Below w0.heap.size w0 wc))
 case first =>
  have H := HC4.out
  clear HC4
  by_cases c8 : a1 = 1
  · rw [if_pos c8] at H
    have c8b0 : (a1 == 1) = true := beq_iff_eq.mpr c8
    have c8b1 : (a1 != 1) = false := bne_eq_false_iff_eq.mpr c8
    clear c8
    by_cases c9 : a0_1.toList = ([] : List UInt8)
    · rw [if_pos c9] at H
      have c9b0 : (a0_1.toList == ([] : List UInt8)) = true := beq_iff_eq.mpr c9
      have c9b1 : (a0_1.toList != ([] : List UInt8)) = false := bne_eq_false_iff_eq.mpr c9
      clear c9
      simp only [Option.some.injEq, Prod.mk.injEq] at H
      obtain ⟨rfl, rfl, rfl, rfl, rfl, rfl, rfl, rfl⟩ := H
      have hnb10 := NB224_225.out
      have hnc10 := NB225_224.out
      obtain ⟨hcz11_0, hcz11_1, hcz11_2, hcz11_3, hcz11_4, hcz11_5, hfz11_0, hfz11_1, hfz11_2, hfz11_3, hfz11_4, hfz11_5⟩ := cz6_ BK224.out
      obtain ⟨hcz12_0, hcz12_1, hcz12_2, hcz12_3, hcz12_4, hcz12_5, hfz12_0, hfz12_1, hfz12_2, hfz12_3, hfz12_4, hfz12_5⟩ := cz6_ BK225.out
      go_wp2
      refine bodyPost_ret (results_ctt rfl _ _ gb225 40 #[.string (⟨#[]⟩ : ByteArray), .string (⟨#[]⟩ : ByteArray), .int .i64 0, .bool false, .string (⟨#[]⟩ : ByteArray), .slice none 0 0] (0, 0) _ rfl (put6_ BK225.out _ _ _ _ _ _) Tryz.underlying40 rfl (by kernel_rfl)) rfl ?_
      exact ⟨_, rfl, by (exact Kd.R_nil _ _ _ _ _), by (repeat (with_reducible first | exact HB.out | refine below_set ?_ GE225.out)), by repeat ((with_reducible first | exact HK.out | refine Kept.setCell ?_ (.inr GW225.out) _))⟩
    · rw [if_neg c9] at H
      have c9b0 : (a0_1.toList == ([] : List UInt8)) = false := beq_eq_false_iff_ne.mpr c9
      have c9b1 : (a0_1.toList != ([] : List UInt8)) = true := bne_iff_ne.mpr c9
      have H' := Aside0.mk H
      clear H
      have hnb13 := NB224_225.out
      have hnc13 := NB225_224.out
      obtain ⟨hcz14_0, hcz14_1, hcz14_2, hcz14_3, hcz14_4, hcz14_5, hfz14_0, hfz14_1, hfz14_2, hfz14_3, hfz14_4, hfz14_5⟩ := cz6_ BK224.out
      go_wp2
      go_meet
      case rel => exact ⟨_, ((⟨#[]⟩ : ByteArray)), ((⟨#[]⟩ : ByteArray)), (0), (false), ((⟨#[]⟩ : ByteArray)), H', ⟨by (omega)⟩, ⟨HO0_5.out⟩, ⟨BK224.out⟩, ⟨BK225.out⟩, ⟨by repeat ((with_reducible (exact HK.out)))⟩, ⟨HB.out⟩⟩
  · rw [if_neg c8] at H
    have c8b0 : (a1 == 1) = false := beq_eq_false_iff_ne.mpr c8
    have c8b1 : (a1 != 1) = true := bne_iff_ne.mpr c8
    by_cases c15 : a1 = 2
    · rw [if_pos c15] at H
      have c15b0 : (a1 == 2) = true := beq_iff_eq.mpr c15
      have c15b1 : (a1 != 2) = false := bne_eq_false_iff_eq.mpr c15
      clear c15
      have H' := Aside0.mk H
      clear H
      go_wp2
      go_meet
      case rel => exact ⟨_, ((⟨#[]⟩ : ByteArray)), ((⟨#[]⟩ : ByteArray)), (0), (false), ((⟨#[]⟩ : ByteArray)), H', ⟨by (omega)⟩, ⟨HO0_5.out⟩, ⟨BK224.out⟩, ⟨BK225.out⟩, ⟨by repeat ((with_reducible (exact HK.out)))⟩, ⟨HB.out⟩⟩
    · rw [if_neg c15] at H
      have c15b0 : (a1 == 2) = false := beq_eq_false_iff_ne.mpr c15
      have c15b1 : (a1 != 2) = true := bne_iff_ne.mpr c15
      by_cases c16 : a0_1.toList = ([] : List UInt8)
      · rw [if_pos c16] at H
        have c16b0 : (a0_1.toList == ([] : List UInt8)) = true := beq_iff_eq.mpr c16
        have c16b1 : (a0_1.toList != ([] : List UInt8)) = false := bne_eq_false_iff_eq.mpr c16
        clear c16
        simp only [Option.some.injEq, Prod.mk.injEq] at H
        obtain ⟨rfl, rfl, rfl, rfl, rfl, rfl, rfl, rfl⟩ := H
        have hnb17 := NB224_225.out
        have hnc17 := NB225_224.out
        obtain ⟨hcz18_0, hcz18_1, hcz18_2, hcz18_3, hcz18_4, hcz18_5, hfz18_0, hfz18_1, hfz18_2, hfz18_3, hfz18_4, hfz18_5⟩ := cz6_ BK224.out
        obtain ⟨hcz19_0, hcz19_1, hcz19_2, hcz19_3, hcz19_4, hcz19_5, hfz19_0, hfz19_1, hfz19_2, hfz19_3, hfz19_4, hfz19_5⟩ := cz6_ BK225.out
        go_wp2
        refine bodyPost_ret (results_ctt rfl _ _ gb225 40 #[.string a0_0, .string a0_1, .int .i64 a0_2, .bool a0_3, .string a0_4, .slice Ao5 l0_5.length co5] (0, 0) _ rfl (put6_ BK225.out _ _ _ _ _ _) Tryz.underlying40 rfl (by kernel_rfl)) rfl ?_
        exact ⟨_, rfl, by (with_reducible repeat (first | apply Kd.R_alloc  | apply Kd.R_drewN  | apply Kd.R_drew)); exact Kd.R_mono (R_far6 (Kd.R_types HO0_5.out BK225.out (by decide)) (fun _ hk => hk.2)) (fun _ hk => hk.1), by (repeat (with_reducible first | exact HB.out | refine below_set ?_ GE225.out)), by repeat ((with_reducible first | exact HK.out | refine Kept.setCell ?_ (.inr GW225.out) _))⟩
      · rw [if_neg c16] at H
        have c16b0 : (a0_1.toList == ([] : List UInt8)) = false := beq_eq_false_iff_ne.mpr c16
        have c16b1 : (a0_1.toList != ([] : List UInt8)) = true := bne_iff_ne.mpr c16
        simp only [Option.some.injEq, Prod.mk.injEq] at H
        obtain ⟨rfl, rfl, rfl, rfl, rfl, rfl, rfl, rfl⟩ := H
        have hnb20 := NB224_225.out
        have hnc20 := NB225_224.out
        obtain ⟨hcz21_0, hcz21_1, hcz21_2, hcz21_3, hcz21_4, hcz21_5, hfz21_0, hfz21_1, hfz21_2, hfz21_3, hfz21_4, hfz21_5⟩ := cz6_ BK224.out
        obtain ⟨hcz22_0, hcz22_1, hcz22_2, hcz22_3, hcz22_4, hcz22_5, hfz22_0, hfz22_1, hfz22_2, hfz22_3, hfz22_4, hfz22_5⟩ := cz6_ BK225.out
        go_wp2
        refine bodyPost_ret (results_ctt rfl _ _ gb225 40 #[.string a0_0, .string a0_1, .int .i64 a0_2, .bool a0_3, .string a0_4, .slice Ao5 l0_5.length co5] (0, 0) _ rfl (put6_ BK225.out _ _ _ _ _ _) Tryz.underlying40 rfl (by kernel_rfl)) rfl ?_
        exact ⟨_, rfl, by (with_reducible repeat (first | apply Kd.R_alloc  | apply Kd.R_drewN  | apply Kd.R_drew)); exact Kd.R_mono (R_far6 (Kd.R_types HO0_5.out BK225.out (by decide)) (fun _ hk => hk.2)) (fun _ hk => hk.1), by (repeat (with_reducible first | exact HB.out | refine below_set ?_ GE225.out)), by repeat ((with_reducible first | exact HK.out | refine Kept.setCell ?_ (.inr GW225.out) _))⟩
 case rest =>
  clear HC4
  obtain ⟨kq, x226000_3, x226001_3, x226002_3, x226003_3, x226004_3, HA, HJ3, HO_225005, BK224, BK225, HK, HB⟩ := hcut
  cases kq with
  | zero => exact absurd HA.out (by simp [client_proven.j0])
  | succ kj3 =>
   have H := HA.out
   clear HA
   simp only [client_proven.j0] at H
   replace H := Option.bind_eq_some_iff.mp H
   obtain ⟨t226, A230, H⟩ := H
   replace H : (if t226 = true then (if a0_1.toList = ([] : List UInt8) then (some (a0_0, a0_1, a0_2, a0_3, a0_4, l0_5, 0, 0)) else (some (a0_0, a0_1, a0_2, a0_3, a0_4, l0_5, a1, 0))) else (some ((⟨#[]⟩ : ByteArray), (⟨#[]⟩ : ByteArray), 0, false, (⟨#[]⟩ : ByteArray), ([] : List ByteArray), 0, 112))) = some (r1, r2, r3, r4, r5, r6, r7, r8) := H
   have A23 := Aside0.mk A230
   clear A230
   by_cases c24 : t226 = true
   · subst c24
     have H1 : (if a0_1.toList = ([] : List UInt8) then (some (a0_0, a0_1, a0_2, a0_3, a0_4, l0_5, 0, 0)) else (some (a0_0, a0_1, a0_2, a0_3, a0_4, l0_5, a1, 0))) = some (r1, r2, r3, r4, r5, r6, r7, r8) := by rw [if_pos rfl] at H; exact H
     clear H
     have H := H1
     clear H1
     by_cases c25 : a0_1.toList = ([] : List UInt8)
     · rw [if_pos c25] at H
       have c25b0 : (a0_1.toList == ([] : List UInt8)) = true := beq_iff_eq.mpr c25
       have c25b1 : (a0_1.toList != ([] : List UInt8)) = false := bne_eq_false_iff_eq.mpr c25
       clear c25
       simp only [Option.some.injEq, Prod.mk.injEq] at H
       obtain ⟨rfl, rfl, rfl, rfl, rfl, rfl, rfl, rfl⟩ := H
       have hnb26 := NB224_225.out
       have hnc26 := NB225_224.out
       obtain ⟨hcz27_0, hcz27_1, hcz27_2, hcz27_3, hcz27_4, hcz27_5, hfz27_0, hfz27_1, hfz27_2, hfz27_3, hfz27_4, hfz27_5⟩ := cz6_ BK224.out
       go_wp2_with (first | ((with_reducible refine gate_callee (f := 109) rfl ?_); refine goesL_ (some 21) rfl rfl Tryz.func109 (by kernel_rfl) rfl #[.string a0_1, .string a2] rfl (by ((try simp only [List.map_toArray, List.map_cons, List.map_nil]); (rfl))) ?_; (with_reducible refine (client_same.calls a0_1 a2 true _ A23.out).mono ?_); rintro e w28 ⟨rfl, hb⟩; refine ⟨_, rfl, ?_⟩; replace HO_225005 := Aside0.mk (Kd.R_below HO_225005.out hb); replace BK224 := Aside0.mk (blk_below BK224.out hb); replace BK225 := Aside0.mk (blk_below BK225.out hb); replace HK := Aside0.mk (Kept.below (S := (fun k_ => P0_5_ k_)) (by repeat ((with_reducible (exact HK.out)))) hb); replace HB := Aside0.mk (below_step HB.out hb); clear hb; obtain ⟨hcz29_0, hcz29_1, hcz29_2, hcz29_3, hcz29_4, hcz29_5, hfz29_0, hfz29_1, hfz29_2, hfz29_3, hfz29_4, hfz29_5⟩ := cz6_ BK224.out; obtain ⟨hcz30_0, hcz30_1, hcz30_2, hcz30_3, hcz30_4, hcz30_5, hfz30_0, hfz30_1, hfz30_2, hfz30_3, hfz30_4, hfz30_5⟩ := cz6_ BK225.out))
       refine bodyPost_ret (results_ctt rfl _ _ gb225 40 #[.string a0_0, .string a0_1, .int .i64 a0_2, .bool a0_3, .string a0_4, .slice Ao5 l0_5.length co5] (0, 0) _ rfl (put6_ BK225.out _ _ _ _ _ _) Tryz.underlying40 rfl (by kernel_rfl)) rfl ?_
       exact ⟨_, rfl, by (with_reducible repeat (first | apply Kd.R_alloc  | apply Kd.R_drewN  | apply Kd.R_drew)); exact Kd.R_mono (R_far6 (Kd.R_types HO_225005.out BK225.out (by decide)) (fun _ hk => hk.2)) (fun _ hk => hk.1), by (repeat (with_reducible first | exact HB.out | refine below_set ?_ GE225.out)), by repeat ((with_reducible first | exact HK.out | refine Kept.setCell ?_ (.inr GW225.out) _))⟩
     · rw [if_neg c25] at H
       have c25b0 : (a0_1.toList == ([] : List UInt8)) = false := beq_eq_false_iff_ne.mpr c25
       have c25b1 : (a0_1.toList != ([] : List UInt8)) = true := bne_iff_ne.mpr c25
       simp only [Option.some.injEq, Prod.mk.injEq] at H
       obtain ⟨rfl, rfl, rfl, rfl, rfl, rfl, rfl, rfl⟩ := H
       have hnb31 := NB224_225.out
       have hnc31 := NB225_224.out
       obtain ⟨hcz32_0, hcz32_1, hcz32_2, hcz32_3, hcz32_4, hcz32_5, hfz32_0, hfz32_1, hfz32_2, hfz32_3, hfz32_4, hfz32_5⟩ := cz6_ BK224.out
       go_wp2_with (first | ((with_reducible refine gate_callee (f := 109) rfl ?_); refine goesL_ (some 21) rfl rfl Tryz.func109 (by kernel_rfl) rfl #[.string a0_1, .string a2] rfl (by ((try simp only [List.map_toArray, List.map_cons, List.map_nil]); (rfl))) ?_; (with_reducible refine (client_same.calls a0_1 a2 true _ A23.out).mono ?_); rintro e w33 ⟨rfl, hb⟩; refine ⟨_, rfl, ?_⟩; replace HO_225005 := Aside0.mk (Kd.R_below HO_225005.out hb); replace BK224 := Aside0.mk (blk_below BK224.out hb); replace BK225 := Aside0.mk (blk_below BK225.out hb); replace HK := Aside0.mk (Kept.below (S := (fun k_ => P0_5_ k_)) (by repeat ((with_reducible (exact HK.out)))) hb); replace HB := Aside0.mk (below_step HB.out hb); clear hb; obtain ⟨hcz34_0, hcz34_1, hcz34_2, hcz34_3, hcz34_4, hcz34_5, hfz34_0, hfz34_1, hfz34_2, hfz34_3, hfz34_4, hfz34_5⟩ := cz6_ BK224.out; obtain ⟨hcz35_0, hcz35_1, hcz35_2, hcz35_3, hcz35_4, hcz35_5, hfz35_0, hfz35_1, hfz35_2, hfz35_3, hfz35_4, hfz35_5⟩ := cz6_ BK225.out))
       refine bodyPost_ret (results_ctt rfl _ _ gb225 40 #[.string a0_0, .string a0_1, .int .i64 a0_2, .bool a0_3, .string a0_4, .slice Ao5 l0_5.length co5] (0, 0) _ rfl (put6_ BK225.out _ _ _ _ _ _) Tryz.underlying40 rfl (by kernel_rfl)) rfl ?_
       exact ⟨_, rfl, by (with_reducible repeat (first | apply Kd.R_alloc  | apply Kd.R_drewN  | apply Kd.R_drew)); exact Kd.R_mono (R_far6 (Kd.R_types HO_225005.out BK225.out (by decide)) (fun _ hk => hk.2)) (fun _ hk => hk.1), by (repeat (with_reducible first | exact HB.out | refine below_set ?_ GE225.out)), by repeat ((with_reducible first | exact HK.out | refine Kept.setCell ?_ (.inr GW225.out) _))⟩
   · replace c24 := Bool.eq_false_iff.mpr c24
     subst c24
     have H1 : (some ((⟨#[]⟩ : ByteArray), (⟨#[]⟩ : ByteArray), 0, false, (⟨#[]⟩ : ByteArray), ([] : List ByteArray), 0, 112)) = some (r1, r2, r3, r4, r5, r6, r7, r8) := by rw [if_neg (show ¬ (false = true) by decide)] at H; exact H
     clear H
     have H := H1
     clear H1
     simp only [Option.some.injEq, Prod.mk.injEq] at H
     obtain ⟨rfl, rfl, rfl, rfl, rfl, rfl, rfl, rfl⟩ := H
     have hnb36 := NB224_225.out
     have hnc36 := NB225_224.out
     obtain ⟨hcz37_0, hcz37_1, hcz37_2, hcz37_3, hcz37_4, hcz37_5, hfz37_0, hfz37_1, hfz37_2, hfz37_3, hfz37_4, hfz37_5⟩ := cz6_ BK224.out
     go_wp2_with (first | ((with_reducible refine gate_callee (f := 109) rfl ?_); refine goesL_ (some 21) rfl rfl Tryz.func109 (by kernel_rfl) rfl #[.string a0_1, .string a2] rfl (by ((try simp only [List.map_toArray, List.map_cons, List.map_nil]); (rfl))) ?_; (with_reducible refine (client_same.calls a0_1 a2 false _ A23.out).mono ?_); rintro e w38 ⟨rfl, hb⟩; refine ⟨_, rfl, ?_⟩; replace HO_225005 := Aside0.mk (Kd.R_below HO_225005.out hb); replace BK224 := Aside0.mk (blk_below BK224.out hb); replace BK225 := Aside0.mk (blk_below BK225.out hb); replace HK := Aside0.mk (Kept.below (S := (fun k_ => P0_5_ k_)) (by repeat ((with_reducible (exact HK.out)))) hb); replace HB := Aside0.mk (below_step HB.out hb); clear hb; obtain ⟨hcz39_0, hcz39_1, hcz39_2, hcz39_3, hcz39_4, hcz39_5, hfz39_0, hfz39_1, hfz39_2, hfz39_3, hfz39_4, hfz39_5⟩ := cz6_ BK225.out))
     refine bodyPost_ret (results_ctt rfl _ _ gb225 40 #[.string (⟨#[]⟩ : ByteArray), .string (⟨#[]⟩ : ByteArray), .int .i64 0, .bool false, .string (⟨#[]⟩ : ByteArray), .slice none 0 0] (0, 0) _ rfl (put6_ BK225.out _ _ _ _ _ _) Tryz.underlying40 rfl (by kernel_rfl)) rfl ?_
     exact ⟨_, rfl, by (exact Kd.R_nil _ _ _ _ _), by (repeat (with_reducible first | exact HB.out | refine below_set ?_ GE225.out)), by repeat ((with_reducible first | exact HK.out | refine Kept.setCell ?_ (.inr GW225.out) _))⟩
end Go.Proofs.YtmimipgmhgalaaaGreatDoor.PAll
end
section
namespace Go.Proofs.YtmimipgmhgalaaaGreatDoor.PAll
open Go.RowKit Go.Proofs.YtmimipgmhgalaaaGreatDoorW.PrintWords Go.Proofs.YtmimipgmhgalaaaGreatDoorW.PrintLast Go.Proofs.YtmimipgmhgalaaaGreatDoorW.PrintMore
attribute [local go_sem] max2_int min2_int max_two min_two max_three min_three max_four min_four
set_option linter.unusedVariables false
set_option linter.unusedSimpArgs false
mutual
def client_Authenticate.j0 : Nat → List (S40) → ByteArray → ByteArray → Bool → ByteArray → Bool → Bool → Option (ByteArray × ByteArray × Int × Bool × ByteArray × List ByteArray × Int × Int)
 | 0, _, _, _, _, _, _, _ => none
 | k + 1, x0, x1, x9, x10, x12, x13, x38 => if x38 = true then (some ((⟨#[]⟩ : ByteArray), (⟨#[]⟩ : ByteArray), 0, false, (⟨#[]⟩ : ByteArray), ([] : List ByteArray), 0, 34)) else (if x1.toList = ([] : List UInt8) then (if x10 = true then (client_Authenticate.j1 k x0 2 x9 x12) else (some ((⟨#[]⟩ : ByteArray), (⟨#[]⟩ : ByteArray), 0, false, (⟨#[]⟩ : ByteArray), ([] : List ByteArray), 0, 7))) else ((client_Basic.f k x1).bind fun bt234 => (if bt234.2.2 = 0 then (if x13 = true then (some ((⟨#[]⟩ : ByteArray), (⟨#[]⟩ : ByteArray), 0, false, (⟨#[]⟩ : ByteArray), ([] : List ByteArray), 0, 34)) else (if x10 = true then (if x9.toList = bt234.1.toList then (client_Authenticate.j1 k x0 1 bt234.1 bt234.2.1) else (some ((⟨#[]⟩ : ByteArray), (⟨#[]⟩ : ByteArray), 0, false, (⟨#[]⟩ : ByteArray), ([] : List ByteArray), 0, 112))) else (client_Authenticate.j1 k x0 1 bt234.1 bt234.2.1))) else (some ((⟨#[]⟩ : ByteArray), (⟨#[]⟩ : ByteArray), 0, false, (⟨#[]⟩ : ByteArray), ([] : List ByteArray), 0, bt234.2.2)))))
def client_Authenticate.j1 : Nat → List (S40) → Int → ByteArray → ByteArray → Option (ByteArray × ByteArray × Int × Bool × ByteArray × List ByteArray × Int × Int)
 | 0, _, _, _, _ => none
 | k + 1, x0, x15, x16, x17 => (client_Find.f k x0 x16).bind fun bt237 => (if bt237.2.2.2.2.2.2 = true then ((client_proven.f k bt237.1 bt237.2.1 bt237.2.2.1 bt237.2.2.2.1 bt237.2.2.2.2.1 bt237.2.2.2.2.2.1 x15 x17).bind fun bt247 => (some (bt247.1, bt247.2.1, bt247.2.2.1, bt247.2.2.2.1, bt247.2.2.2.2.1, bt247.2.2.2.2.2.1, bt247.2.2.2.2.2.2.1, bt247.2.2.2.2.2.2.2))) else (some ((⟨#[]⟩ : ByteArray), (⟨#[]⟩ : ByteArray), 0, false, (⟨#[]⟩ : ByteArray), ([] : List ByteArray), 0, 111)))
end
def client_Authenticate.f (k : Nat) (l0 : List (S40)) (a1 : ByteArray) (l2 : List (S68)) : Option (ByteArray × ByteArray × Int × Bool × ByteArray × List ByteArray × Int × Int) := (urlform_One.f k l2 (⟨#[99, 108, 105, 101, 110, 116, 95, 105, 100]⟩ : ByteArray)).bind fun bt228 => ((urlform_One.f k l2 (⟨#[99, 108, 105, 101, 110, 116, 95, 115, 101, 99, 114, 101, 116]⟩ : ByteArray)).bind fun bt231 => (if bt228.2.2 = 0 then (client_Authenticate.j0 k l0 a1 bt228.1 bt228.2.1 bt231.1 bt231.2.1 (bt231.2.2 != 0)) else (client_Authenticate.j0 k l0 a1 bt228.1 bt228.2.1 bt231.1 bt231.2.1 true)))
set_option maxHeartbeats 8000000 in
set_option maxRecDepth 100000 in
theorem client_Authenticate.calls (k : Nat) (A0 : Option Addr) (c0 : Nat) (l0 : List (S40)) (a1 : ByteArray) (A2 : Option Addr) (c2 : Nat) (l2 : List (S68)) (r1 : ByteArray) (r2 : ByteArray) (r3 : Int) (r4 : Bool) (r5 : ByteArray) (r6 : List ByteArray) (r7 : Int) (r8 : Int) (w : World) (hr0 : Kd.C k40 w A0 l0.length l0) (hc0 : l0.length ≤ c0) (hr2 : Kd.C k68 w A2 l2.length l2) (hc2 : l2.length ≤ c2) (h : client_Authenticate.f k l0 a1 l2 = some (r1, r2, r3, r4, r5, r6, r7, r8)) :
 Calls Tryz.prog 34 #[.slice A0 l0.length c0, .string a1, .slice A2 l2.length c2] w fun e w' => ∃ v5_ : Value, e = .returned (.tuple #[.agg #[.string r1, .string r2, .int .i64 r3, .bool r4, .string r5, v5_], .int .i64 r7, .int .i64 r8]) ∧ Kd.R Kd.string 9 w' w.heap.size (fun _ => True) v5_ r6 ∧ Below w.heap.size w w' := by
 have hu40 := Tryz.underlying40
 have HR0 := Aside0.mk hr0
 have HC0 := Aside0.mk hc0
 clear hr0 hc0
 have HR2 := Aside0.mk hr2
 have HC2 := Aside0.mk hc2
 clear hr2 hc2
 have HB := Aside0.mk (Below.refl w.heap.size w)
 have H : ((urlform_One.f k l2 (⟨#[99, 108, 105, 101, 110, 116, 95, 105, 100]⟩ : ByteArray)).bind fun bt228 => ((urlform_One.f k l2 (⟨#[99, 108, 105, 101, 110, 116, 95, 115, 101, 99, 114, 101, 116]⟩ : ByteArray)).bind fun bt231 => (if bt228.2.2 = 0 then (client_Authenticate.j0 k l0 a1 bt228.1 bt228.2.1 bt231.1 bt231.2.1 (bt231.2.2 != 0)) else (client_Authenticate.j0 k l0 a1 bt228.1 bt228.2.1 bt231.1 bt231.2.1 true)))) = some (r1, r2, r3, r4, r5, r6, r7, r8) := h
 clear h
 replace H := Option.bind_eq_some_iff.mp H
 obtain ⟨⟨t228, t229, t230⟩, A40, H⟩ := H
 replace H : ((urlform_One.f k l2 (⟨#[99, 108, 105, 101, 110, 116, 95, 115, 101, 99, 114, 101, 116]⟩ : ByteArray)).bind fun bt231 => (if t230 = 0 then (client_Authenticate.j0 k l0 a1 t228 t229 bt231.1 bt231.2.1 (bt231.2.2 != 0)) else (client_Authenticate.j0 k l0 a1 t228 t229 bt231.1 bt231.2.1 true))) = some (r1, r2, r3, r4, r5, r6, r7, r8) := H
 have A4 := Aside0.mk A40
 clear A40
 replace H := Option.bind_eq_some_iff.mp H
 obtain ⟨⟨t231, t232, t233⟩, A50, H⟩ := H
 replace H : (if t230 = 0 then (client_Authenticate.j0 k l0 a1 t228 t229 t231 t232 (t233 != 0)) else (client_Authenticate.j0 k l0 a1 t228 t229 t231 t232 true)) = some (r1, r2, r3, r4, r5, r6, r7, r8) := H
 have A5 := Aside0.mk A50
 clear A50
 have HC6 := Aside0.mk H
 clear H
 go_enter Tryz.func34, Tryz.ntmps34
 go_upto_region 3 with (first | ((with_reducible refine gate_dst (N := 6) rfl ?_); refine box_event (by rfl) (N := 6) (by rfl) (cs := #[.string (⟨#[]⟩ : ByteArray), .string (⟨#[]⟩ : ByteArray), .int .i64 0, .bool false, .string (⟨#[]⟩ : ByteArray), .slice none 0 0]) (t := 40) (by go_simp) ?_; intro gb227 hg w7 hbox hb; have BK227 := Aside0.mk hbox; have GW227 := Aside0.mk ((by rw [hg]; exact (below_size HB.out) : w.heap.size ≤ gb227)); have GE227 := Aside0.mk ((by rw [hg]; exact (below_size HB.out) : w.heap.size ≤ gb227)); replace HB := Aside0.mk (below_step HB.out hb); clear hb hbox hg) | ((with_reducible refine gate_callee (f := 69) rfl ?_); refine goesL_ (some 23) rfl rfl Tryz.func69 (by kernel_rfl) rfl #[.slice A2 l2.length c2, .string (⟨#[99, 108, 105, 101, 110, 116, 95, 105, 100]⟩ : ByteArray)] rfl (by ((try simp only [List.map_toArray, List.map_cons, List.map_nil]); (rfl))) ?_; (with_reducible refine (urlform_One.calls k _ _ l2 (⟨#[99, 108, 105, 101, 110, 116, 95, 105, 100]⟩ : ByteArray) t228 t229 t230 _ ?side1 ?side2 A4.out).mono ?_); (case side1 => repeat (exact (Kd.C_below HR2.out HB.out))); (case side2 => exact HC2.out); rintro e w8 ⟨rfl, hb⟩; refine ⟨_, rfl, ?_⟩; replace BK227 := Aside0.mk (blk_below BK227.out hb); replace HB := Aside0.mk (below_step HB.out hb); clear hb) | ((with_reducible refine gate_callee (f := 69) rfl ?_); refine goesL_ (some 29) rfl rfl Tryz.func69 (by kernel_rfl) rfl #[.slice A2 l2.length c2, .string (⟨#[99, 108, 105, 101, 110, 116, 95, 115, 101, 99, 114, 101, 116]⟩ : ByteArray)] rfl (by ((try simp only [List.map_toArray, List.map_cons, List.map_nil]); (rfl))) ?_; (with_reducible refine (urlform_One.calls k _ _ l2 (⟨#[99, 108, 105, 101, 110, 116, 95, 115, 101, 99, 114, 101, 116]⟩ : ByteArray) t231 t232 t233 _ ?side1 ?side2 A5.out).mono ?_); (case side1 => repeat (exact (Kd.C_below HR2.out HB.out))); (case side2 => exact HC2.out); rintro e w9 ⟨rfl, hb⟩; refine ⟨_, rfl, ?_⟩; replace BK227 := Aside0.mk (blk_below BK227.out hb); replace HB := Aside0.mk (below_step HB.out hb); clear hb))
 go_cut [38] (fun v38 wc => ∃ (kq : Nat) (x38_5 : Bool), v38 = .bool x38_5 ∧ Aside0 (client_Authenticate.j0 kq l0 a1 t228 t229 t231 t232 x38_5 = some (r1, r2, r3, r4, r5, r6, r7, r8)) ∧ Aside0 (kq ≤ k) ∧ Aside0 (wc.heap[gb227]? = some (.cells #[.string (⟨#[]⟩ : ByteArray), .string (⟨#[]⟩ : ByteArray), .int .i64 0, .bool false, .string (⟨#[]⟩ : ByteArray), (.slice none 0 0)] 40 (0, 0))) ∧ Aside0 (Below w.heap.size w wc))
 case first =>
  have H := HC6.out
  clear HC6
  by_cases c10 : t230 = 0
  · rw [if_pos c10] at H
    have c10b0 : (t230 == 0) = true := beq_iff_eq.mpr c10
    have c10b1 : (t230 != 0) = false := bne_eq_false_iff_eq.mpr c10
    clear c10
    have H' := Aside0.mk H
    clear H
    go_wp2
    go_meet
    case rel => exact ⟨_, ((t233 != 0)), rfl, H', ⟨by (omega)⟩, ⟨BK227.out⟩, ⟨HB.out⟩⟩
  · rw [if_neg c10] at H
    have c10b0 : (t230 == 0) = false := beq_eq_false_iff_ne.mpr c10
    have c10b1 : (t230 != 0) = true := bne_iff_ne.mpr c10
    have H' := Aside0.mk H
    clear H
    go_wp2
    go_meet
    case rel => exact ⟨_, (true), rfl, H', ⟨by (omega)⟩, ⟨BK227.out⟩, ⟨HB.out⟩⟩
 case rest =>
  clear HC6
  obtain ⟨kq, x38_5, rfl, HA, HJ5, BK227, HB⟩ := hcut
  cases kq with
  | zero => exact absurd HA.out (by simp [client_Authenticate.j0])
  | succ kj5 =>
   have H := HA.out
   clear HA
   simp only [client_Authenticate.j0] at H
   by_cases c11 : x38_5 = true
   · subst c11
     have H1 : (some ((⟨#[]⟩ : ByteArray), (⟨#[]⟩ : ByteArray), 0, false, (⟨#[]⟩ : ByteArray), ([] : List ByteArray), 0, 34)) = some (r1, r2, r3, r4, r5, r6, r7, r8) := by rw [if_pos rfl] at H; exact H
     clear H
     have H := H1
     clear H1
     simp only [Option.some.injEq, Prod.mk.injEq] at H
     obtain ⟨rfl, rfl, rfl, rfl, rfl, rfl, rfl, rfl⟩ := H
     obtain ⟨hcz12_0, hcz12_1, hcz12_2, hcz12_3, hcz12_4, hcz12_5, hfz12_0, hfz12_1, hfz12_2, hfz12_3, hfz12_4, hfz12_5⟩ := cz6_ BK227.out
     go_wp2
     refine bodyPost_ret (results_ctt rfl _ _ gb227 40 #[.string (⟨#[]⟩ : ByteArray), .string (⟨#[]⟩ : ByteArray), .int .i64 0, .bool false, .string (⟨#[]⟩ : ByteArray), .slice none 0 0] (0, 0) _ rfl (put6_ BK227.out _ _ _ _ _ _) Tryz.underlying40 rfl (by kernel_rfl)) rfl ?_
     exact ⟨_, rfl, by (exact Kd.R_nil _ _ _ _ _), by (repeat (with_reducible first | exact HB.out | refine below_set ?_ GE227.out))⟩
   · replace c11 := Bool.eq_false_iff.mpr c11
     subst c11
     have H1 : (if a1.toList = ([] : List UInt8) then (if t229 = true then (client_Authenticate.j1 kj5 l0 2 t228 t231) else (some ((⟨#[]⟩ : ByteArray), (⟨#[]⟩ : ByteArray), 0, false, (⟨#[]⟩ : ByteArray), ([] : List ByteArray), 0, 7))) else ((client_Basic.f kj5 a1).bind fun bt234 => (if bt234.2.2 = 0 then (if t232 = true then (some ((⟨#[]⟩ : ByteArray), (⟨#[]⟩ : ByteArray), 0, false, (⟨#[]⟩ : ByteArray), ([] : List ByteArray), 0, 34)) else (if t229 = true then (if t228.toList = bt234.1.toList then (client_Authenticate.j1 kj5 l0 1 bt234.1 bt234.2.1) else (some ((⟨#[]⟩ : ByteArray), (⟨#[]⟩ : ByteArray), 0, false, (⟨#[]⟩ : ByteArray), ([] : List ByteArray), 0, 112))) else (client_Authenticate.j1 kj5 l0 1 bt234.1 bt234.2.1))) else (some ((⟨#[]⟩ : ByteArray), (⟨#[]⟩ : ByteArray), 0, false, (⟨#[]⟩ : ByteArray), ([] : List ByteArray), 0, bt234.2.2))))) = some (r1, r2, r3, r4, r5, r6, r7, r8) := by rw [if_neg (show ¬ (false = true) by decide)] at H; exact H
     clear H
     have H := H1
     clear H1
     have HC13 := Aside0.mk H
     clear H
     go_upto_if 43 with (fail)
     go_cut [15, 16, 17] (fun v15 v16 v17 wc => ∃ (kq : Nat) (x15_12 : Int) (x16_12 : ByteArray) (x17_12 : ByteArray) (x228000_12 : ByteArray) (x228001_12 : ByteArray) (x228002_12 : Int) (x228003_12 : Bool) (x228004_12 : ByteArray), v15 = .int .i64 x15_12 ∧ v16 = .string x16_12 ∧ v17 = .string x17_12 ∧ Aside0 (client_Authenticate.j1 kq l0 x15_12 x16_12 x17_12 = some (r1, r2, r3, r4, r5, r6, r7, r8)) ∧ Aside0 (kq ≤ kj5) ∧ Aside0 (wc.heap[gb227]? = some (.cells #[.string x228000_12, .string x228001_12, .int .i64 x228002_12, .bool x228003_12, .string x228004_12, (.slice none 0 0)] 40 (0, 0))) ∧ Aside0 (Below w.heap.size w wc))
     case first =>
      have H := HC13.out
      clear HC13
      by_cases c14 : a1.toList = ([] : List UInt8)
      · rw [if_pos c14] at H
        have c14b0 : (a1.toList == ([] : List UInt8)) = true := beq_iff_eq.mpr c14
        try have c14b4 : (a1).toList.isEmpty = true := by have h_ := c14b0; revert h_; cases (a1).toList <;> simp
        have c14b1 : (a1.toList != ([] : List UInt8)) = false := bne_eq_false_iff_eq.mpr c14
        clear c14
        (rw [c14b4])
        by_cases c15 : t229 = true
        · subst c15
          have H1 : (client_Authenticate.j1 kj5 l0 2 t228 t231) = some (r1, r2, r3, r4, r5, r6, r7, r8) := by rw [if_pos rfl] at H; exact H
          clear H
          have H := H1
          clear H1
          have H' := Aside0.mk H
          clear H
          go_wp2
          go_meet
          case rel => exact ⟨_, (2), (t228), (t231), ((⟨#[]⟩ : ByteArray)), ((⟨#[]⟩ : ByteArray)), (0), (false), ((⟨#[]⟩ : ByteArray)), rfl, rfl, rfl, H', ⟨by have := HJ5.out; (omega)⟩, ⟨BK227.out⟩, ⟨HB.out⟩⟩
        · replace c15 := Bool.eq_false_iff.mpr c15
          subst c15
          have H1 : (some ((⟨#[]⟩ : ByteArray), (⟨#[]⟩ : ByteArray), 0, false, (⟨#[]⟩ : ByteArray), ([] : List ByteArray), 0, 7)) = some (r1, r2, r3, r4, r5, r6, r7, r8) := by rw [if_neg (show ¬ (false = true) by decide)] at H; exact H
          clear H
          have H := H1
          clear H1
          simp only [Option.some.injEq, Prod.mk.injEq] at H
          obtain ⟨rfl, rfl, rfl, rfl, rfl, rfl, rfl, rfl⟩ := H
          obtain ⟨hcz16_0, hcz16_1, hcz16_2, hcz16_3, hcz16_4, hcz16_5, hfz16_0, hfz16_1, hfz16_2, hfz16_3, hfz16_4, hfz16_5⟩ := cz6_ BK227.out
          go_wp2
          refine bodyPost_ret (results_ctt rfl _ _ gb227 40 #[.string (⟨#[]⟩ : ByteArray), .string (⟨#[]⟩ : ByteArray), .int .i64 0, .bool false, .string (⟨#[]⟩ : ByteArray), .slice none 0 0] (0, 0) _ rfl (put6_ BK227.out _ _ _ _ _ _) Tryz.underlying40 rfl (by kernel_rfl)) rfl ?_
          exact ⟨_, rfl, by (exact Kd.R_nil _ _ _ _ _), by (repeat (with_reducible first | exact HB.out | refine below_set ?_ GE227.out))⟩
      · rw [if_neg c14] at H
        have c14b0 : (a1.toList == ([] : List UInt8)) = false := beq_eq_false_iff_ne.mpr c14
        try have c14b4 : (a1).toList.isEmpty = false := by have h_ := c14b0; revert h_; cases (a1).toList <;> simp
        have c14b1 : (a1.toList != ([] : List UInt8)) = true := bne_iff_ne.mpr c14
        (rw [c14b4])
        replace H := Option.bind_eq_some_iff.mp H
        obtain ⟨⟨t234, t235, t236⟩, A170, H⟩ := H
        replace H : (if t236 = 0 then (if t232 = true then (some ((⟨#[]⟩ : ByteArray), (⟨#[]⟩ : ByteArray), 0, false, (⟨#[]⟩ : ByteArray), ([] : List ByteArray), 0, 34)) else (if t229 = true then (if t228.toList = t234.toList then (client_Authenticate.j1 kj5 l0 1 t234 t235) else (some ((⟨#[]⟩ : ByteArray), (⟨#[]⟩ : ByteArray), 0, false, (⟨#[]⟩ : ByteArray), ([] : List ByteArray), 0, 112))) else (client_Authenticate.j1 kj5 l0 1 t234 t235))) else (some ((⟨#[]⟩ : ByteArray), (⟨#[]⟩ : ByteArray), 0, false, (⟨#[]⟩ : ByteArray), ([] : List ByteArray), 0, t236))) = some (r1, r2, r3, r4, r5, r6, r7, r8) := H
        have A17 := Aside0.mk A170
        clear A170
        by_cases c18 : t236 = 0
        · rw [if_pos c18] at H
          have c18b0 : (t236 == 0) = true := beq_iff_eq.mpr c18
          have c18b1 : (t236 != 0) = false := bne_eq_false_iff_eq.mpr c18
          clear c18
          by_cases c19 : t232 = true
          · subst c19
            have H1 : (some ((⟨#[]⟩ : ByteArray), (⟨#[]⟩ : ByteArray), 0, false, (⟨#[]⟩ : ByteArray), ([] : List ByteArray), 0, 34)) = some (r1, r2, r3, r4, r5, r6, r7, r8) := by rw [if_pos rfl] at H; exact H
            clear H
            have H := H1
            clear H1
            simp only [Option.some.injEq, Prod.mk.injEq] at H
            obtain ⟨rfl, rfl, rfl, rfl, rfl, rfl, rfl, rfl⟩ := H
            go_wp2_with (first | ((with_reducible refine gate_callee (f := 32) rfl ?_); refine goesL_ (some 46) rfl rfl Tryz.func32 (by kernel_rfl) rfl #[.string a1] rfl (by ((try simp only [List.map_toArray, List.map_cons, List.map_nil]); (rfl))) ?_; (with_reducible refine (client_Basic.calls kj5 a1 t234 t235 t236 _ A17.out).mono ?_); rintro e w20 ⟨rfl, hb⟩; refine ⟨_, rfl, ?_⟩; replace BK227 := Aside0.mk (blk_below BK227.out hb); replace HB := Aside0.mk (below_step HB.out hb); clear hb; obtain ⟨hcz21_0, hcz21_1, hcz21_2, hcz21_3, hcz21_4, hcz21_5, hfz21_0, hfz21_1, hfz21_2, hfz21_3, hfz21_4, hfz21_5⟩ := cz6_ BK227.out))
            refine bodyPost_ret (results_ctt rfl _ _ gb227 40 #[.string (⟨#[]⟩ : ByteArray), .string (⟨#[]⟩ : ByteArray), .int .i64 0, .bool false, .string (⟨#[]⟩ : ByteArray), .slice none 0 0] (0, 0) _ rfl (put6_ BK227.out _ _ _ _ _ _) Tryz.underlying40 rfl (by kernel_rfl)) rfl ?_
            exact ⟨_, rfl, by (exact Kd.R_nil _ _ _ _ _), by (repeat (with_reducible first | exact HB.out | refine below_set ?_ GE227.out))⟩
          · replace c19 := Bool.eq_false_iff.mpr c19
            subst c19
            have H1 : (if t229 = true then (if t228.toList = t234.toList then (client_Authenticate.j1 kj5 l0 1 t234 t235) else (some ((⟨#[]⟩ : ByteArray), (⟨#[]⟩ : ByteArray), 0, false, (⟨#[]⟩ : ByteArray), ([] : List ByteArray), 0, 112))) else (client_Authenticate.j1 kj5 l0 1 t234 t235)) = some (r1, r2, r3, r4, r5, r6, r7, r8) := by rw [if_neg (show ¬ (false = true) by decide)] at H; exact H
            clear H
            have H := H1
            clear H1
            by_cases c22 : t229 = true
            · subst c22
              have H1 : (if t228.toList = t234.toList then (client_Authenticate.j1 kj5 l0 1 t234 t235) else (some ((⟨#[]⟩ : ByteArray), (⟨#[]⟩ : ByteArray), 0, false, (⟨#[]⟩ : ByteArray), ([] : List ByteArray), 0, 112))) = some (r1, r2, r3, r4, r5, r6, r7, r8) := by rw [if_pos rfl] at H; exact H
              clear H
              have H := H1
              clear H1
              by_cases c23 : t228.toList = t234.toList
              · rw [if_pos c23] at H
                have c23b0 : (t228.toList == t234.toList) = true := beq_iff_eq.mpr c23
                have c23b1 : (t228.toList != t234.toList) = false := bne_eq_false_iff_eq.mpr c23
                clear c23
                have H' := Aside0.mk H
                clear H
                go_wp2_with (first | ((with_reducible refine gate_callee (f := 32) rfl ?_); refine goesL_ (some 46) rfl rfl Tryz.func32 (by kernel_rfl) rfl #[.string a1] rfl (by ((try simp only [List.map_toArray, List.map_cons, List.map_nil]); (rfl))) ?_; (with_reducible refine (client_Basic.calls kj5 a1 t234 t235 t236 _ A17.out).mono ?_); rintro e w24 ⟨rfl, hb⟩; refine ⟨_, rfl, ?_⟩; replace BK227 := Aside0.mk (blk_below BK227.out hb); replace HB := Aside0.mk (below_step HB.out hb); clear hb))
                go_meet
                case rel => exact ⟨_, (1), (t234), (t235), ((⟨#[]⟩ : ByteArray)), ((⟨#[]⟩ : ByteArray)), (0), (false), ((⟨#[]⟩ : ByteArray)), rfl, rfl, rfl, H', ⟨by have := HJ5.out; (omega)⟩, ⟨BK227.out⟩, ⟨HB.out⟩⟩
              · rw [if_neg c23] at H
                have c23b0 : (t228.toList == t234.toList) = false := beq_eq_false_iff_ne.mpr c23
                have c23b1 : (t228.toList != t234.toList) = true := bne_iff_ne.mpr c23
                simp only [Option.some.injEq, Prod.mk.injEq] at H
                obtain ⟨rfl, rfl, rfl, rfl, rfl, rfl, rfl, rfl⟩ := H
                go_wp2_with (first | ((with_reducible refine gate_callee (f := 32) rfl ?_); refine goesL_ (some 46) rfl rfl Tryz.func32 (by kernel_rfl) rfl #[.string a1] rfl (by ((try simp only [List.map_toArray, List.map_cons, List.map_nil]); (rfl))) ?_; (with_reducible refine (client_Basic.calls kj5 a1 t234 t235 t236 _ A17.out).mono ?_); rintro e w25 ⟨rfl, hb⟩; refine ⟨_, rfl, ?_⟩; replace BK227 := Aside0.mk (blk_below BK227.out hb); replace HB := Aside0.mk (below_step HB.out hb); clear hb; obtain ⟨hcz26_0, hcz26_1, hcz26_2, hcz26_3, hcz26_4, hcz26_5, hfz26_0, hfz26_1, hfz26_2, hfz26_3, hfz26_4, hfz26_5⟩ := cz6_ BK227.out))
                refine bodyPost_ret (results_ctt rfl _ _ gb227 40 #[.string (⟨#[]⟩ : ByteArray), .string (⟨#[]⟩ : ByteArray), .int .i64 0, .bool false, .string (⟨#[]⟩ : ByteArray), .slice none 0 0] (0, 0) _ rfl (put6_ BK227.out _ _ _ _ _ _) Tryz.underlying40 rfl (by kernel_rfl)) rfl ?_
                exact ⟨_, rfl, by (exact Kd.R_nil _ _ _ _ _), by (repeat (with_reducible first | exact HB.out | refine below_set ?_ GE227.out))⟩
            · replace c22 := Bool.eq_false_iff.mpr c22
              subst c22
              have H1 : (client_Authenticate.j1 kj5 l0 1 t234 t235) = some (r1, r2, r3, r4, r5, r6, r7, r8) := by rw [if_neg (show ¬ (false = true) by decide)] at H; exact H
              clear H
              have H := H1
              clear H1
              have H' := Aside0.mk H
              clear H
              go_wp2_with (first | ((with_reducible refine gate_callee (f := 32) rfl ?_); refine goesL_ (some 46) rfl rfl Tryz.func32 (by kernel_rfl) rfl #[.string a1] rfl (by ((try simp only [List.map_toArray, List.map_cons, List.map_nil]); (rfl))) ?_; (with_reducible refine (client_Basic.calls kj5 a1 t234 t235 t236 _ A17.out).mono ?_); rintro e w27 ⟨rfl, hb⟩; refine ⟨_, rfl, ?_⟩; replace BK227 := Aside0.mk (blk_below BK227.out hb); replace HB := Aside0.mk (below_step HB.out hb); clear hb))
              go_meet
              case rel => exact ⟨_, (1), (t234), (t235), ((⟨#[]⟩ : ByteArray)), ((⟨#[]⟩ : ByteArray)), (0), (false), ((⟨#[]⟩ : ByteArray)), rfl, rfl, rfl, H', ⟨by have := HJ5.out; (omega)⟩, ⟨BK227.out⟩, ⟨HB.out⟩⟩
        · rw [if_neg c18] at H
          have c18b0 : (t236 == 0) = false := beq_eq_false_iff_ne.mpr c18
          have c18b1 : (t236 != 0) = true := bne_iff_ne.mpr c18
          simp only [Option.some.injEq, Prod.mk.injEq] at H
          obtain ⟨rfl, rfl, rfl, rfl, rfl, rfl, rfl, rfl⟩ := H
          go_wp2_with (first | ((with_reducible refine gate_callee (f := 32) rfl ?_); refine goesL_ (some 46) rfl rfl Tryz.func32 (by kernel_rfl) rfl #[.string a1] rfl (by ((try simp only [List.map_toArray, List.map_cons, List.map_nil]); (rfl))) ?_; (with_reducible refine (client_Basic.calls kj5 a1 t234 t235 t236 _ A17.out).mono ?_); rintro e w28 ⟨rfl, hb⟩; refine ⟨_, rfl, ?_⟩; replace BK227 := Aside0.mk (blk_below BK227.out hb); replace HB := Aside0.mk (below_step HB.out hb); clear hb; obtain ⟨hcz29_0, hcz29_1, hcz29_2, hcz29_3, hcz29_4, hcz29_5, hfz29_0, hfz29_1, hfz29_2, hfz29_3, hfz29_4, hfz29_5⟩ := cz6_ BK227.out))
          refine bodyPost_ret (results_ctt rfl _ _ gb227 40 #[.string (⟨#[]⟩ : ByteArray), .string (⟨#[]⟩ : ByteArray), .int .i64 0, .bool false, .string (⟨#[]⟩ : ByteArray), .slice none 0 0] (0, 0) _ rfl (put6_ BK227.out _ _ _ _ _ _) Tryz.underlying40 rfl (by kernel_rfl)) rfl ?_
          exact ⟨_, rfl, by (exact Kd.R_nil _ _ _ _ _), by (repeat (with_reducible first | exact HB.out | refine below_set ?_ GE227.out))⟩
     case rest =>
      clear HC13
      obtain ⟨kq, x15_12, x16_12, x17_12, x228000_12, x228001_12, x228002_12, x228003_12, x228004_12, rfl, rfl, rfl, HA, HJ12, BK227, HB⟩ := hcut
      cases kq with
      | zero => exact absurd HA.out (by simp [client_Authenticate.j1])
      | succ kj12 =>
       have H := HA.out
       clear HA
       simp only [client_Authenticate.j1] at H
       replace H := Option.bind_eq_some_iff.mp H
       obtain ⟨⟨t237, t238, t239, t240, t241, t242, t245⟩, A300, H⟩ := H
       replace H : (if t245 = true then ((client_proven.f kj12 t237 t238 t239 t240 t241 t242 x15_12 x17_12).bind fun bt247 => (some (bt247.1, bt247.2.1, bt247.2.2.1, bt247.2.2.2.1, bt247.2.2.2.2.1, bt247.2.2.2.2.2.1, bt247.2.2.2.2.2.2.1, bt247.2.2.2.2.2.2.2))) else (some ((⟨#[]⟩ : ByteArray), (⟨#[]⟩ : ByteArray), 0, false, (⟨#[]⟩ : ByteArray), ([] : List ByteArray), 0, 111))) = some (r1, r2, r3, r4, r5, r6, r7, r8) := H
       have A30 := Aside0.mk A300
       clear A300
       by_cases c31 : t245 = true
       · subst c31
         have H1 : ((client_proven.f kj12 t237 t238 t239 t240 t241 t242 x15_12 x17_12).bind fun bt247 => (some (bt247.1, bt247.2.1, bt247.2.2.1, bt247.2.2.2.1, bt247.2.2.2.2.1, bt247.2.2.2.2.2.1, bt247.2.2.2.2.2.2.1, bt247.2.2.2.2.2.2.2))) = some (r1, r2, r3, r4, r5, r6, r7, r8) := by rw [if_pos rfl] at H; exact H
         clear H
         have H := H1
         clear H1
         replace H := Option.bind_eq_some_iff.mp H
         obtain ⟨⟨t247, t248, t249, t250, t251, t252, t255, t256⟩, A320, H⟩ := H
         replace H : (some (t247, t248, t249, t250, t251, t252, t255, t256)) = some (r1, r2, r3, r4, r5, r6, r7, r8) := H
         have A32 := Aside0.mk A320
         clear A320
         simp only [Option.some.injEq, Prod.mk.injEq] at H
         obtain ⟨rfl, rfl, rfl, rfl, rfl, rfl, rfl, rfl⟩ := H
         go_wp2_with (first | ((with_reducible refine gate_callee (f := 29) rfl ?_); refine goesL_ (some 72) rfl rfl Tryz.func29 (by kernel_rfl) rfl #[.slice A0 l0.length c0, .string x16_12] rfl (by ((try simp only [List.map_toArray, List.map_cons, List.map_nil]); (rfl))) ?_; (with_reducible refine (client_Find.calls kj12 _ _ l0 x16_12 t237 t238 t239 t240 t241 t242 true _ ?side1 ?side2 A30.out).mono ?_); (case side1 => repeat (exact (Kd.C_below HR0.out HB.out))); (case side2 => exact HC0.out); rintro e w33 ⟨v243, rfl, ho0, hb⟩; refine ⟨_, rfl, ?_⟩; have HO244 := Aside0.mk (Kd.R_lower ho0 (below_size HB.out)); replace BK227 := Aside0.mk (blk_below BK227.out hb); replace HB := Aside0.mk (below_step HB.out hb); clear hb ho0) | ((with_reducible refine gate_dst (N := 19) rfl ?_); refine box_event (by rfl) (N := 19) (by rfl) (cs := #[.string (⟨#[]⟩ : ByteArray), .string (⟨#[]⟩ : ByteArray), .int .i64 0, .bool false, .string (⟨#[]⟩ : ByteArray), .slice none 0 0]) (t := 40) (by go_simp) ?_; intro gb246 hg w34 hbox hb; replace HO244 := Aside0.mk (Kd.R_below HO244.out hb); have BK246 := Aside0.mk hbox; have GW246 := Aside0.mk ((by rw [hg]; exact (below_size HB.out) : w.heap.size ≤ gb246)); have GE246 := Aside0.mk ((by rw [hg]; exact (below_size HB.out) : w.heap.size ≤ gb246)); replace HB := Aside0.mk (below_step HB.out hb); have NB227_246 := Aside0.mk ((by rw [hg]; exact Nat.ne_of_lt (blk_lt BK227.out) : gb227 ≠ gb246)); have NB246_227 := Aside0.mk ((by rw [hg]; exact Nat.ne_of_gt (blk_lt BK227.out) : gb246 ≠ gb227)); replace BK227 := Aside0.mk (blk_below BK227.out hb); clear hb hbox hg; have hnb35 := NB246_227.out; have hnc35 := NB227_246.out; obtain ⟨hcz36_0, hcz36_1, hcz36_2, hcz36_3, hcz36_4, hcz36_5, hfz36_0, hfz36_1, hfz36_2, hfz36_3, hfz36_4, hfz36_5⟩ := cz6_ BK246.out; obtain ⟨Ao37, co37, eo37⟩ := Kd.R_slice HO244.out; subst eo37) | ((with_reducible refine gate_store (t := 40) (p := 19) rfl ?_); refine store_event (t := 40) (p := 19) (v := ?vo_w38) (w1 := ((((((w34.setCell ⟨gb246, 0, none⟩ (.string t237)).setCell ⟨gb246, 1, none⟩ (.string t238)).setCell ⟨gb246, 2, none⟩ (.int .i64 t239)).setCell ⟨gb246, 3, none⟩ (.bool t240)).setCell ⟨gb246, 4, none⟩ (.string t241)).setCell ⟨gb246, 5, none⟩ (.slice Ao37 t242.length co37))) ?hg ?ho ?hn ?hr ?_; (case ho => rfl); (case hg => rfl); (case hn => rfl); (case hr => (go_simp; done)); intro w38 hw; have n0_ : Aside0 (Kd.R Kd.string 9 w38 w.heap.size (fun _ => True) (.slice Ao37 t242.length co37) t242) := ⟨(by rw [hw]; exact (by (with_reducible repeat (first | apply Kd.R_alloc  | apply Kd.R_drewN  | apply Kd.R_drew)); exact Kd.R_mono (R_far6 (Kd.R_types HO244.out BK246.out (by decide)) (fun _ hk => hk.2)) (fun _ hk => trivial)))⟩; have n1_ : Aside0 (w38.heap[gb227]? = some (.cells #[.string x228000_12, .string x228001_12, .int .i64 x228002_12, .bool x228003_12, .string x228004_12, .slice none 0 0] 40 (0, 0))) := ⟨(by rw [hw]; exact (by (with_reducible repeat (first | refine blk_drewN ?_ _  | refine blk_drew ?_  | refine blk_alloc ?_ _)); refine blk_far ?_ NB227_246.out _; (with_reducible repeat (first | refine blk_drewN ?_ _  | refine blk_drew ?_  | refine blk_alloc ?_ _)); refine blk_far ?_ NB227_246.out _; (with_reducible repeat (first | refine blk_drewN ?_ _  | refine blk_drew ?_  | refine blk_alloc ?_ _)); refine blk_far ?_ NB227_246.out _; (with_reducible repeat (first | refine blk_drewN ?_ _  | refine blk_drew ?_  | refine blk_alloc ?_ _)); refine blk_far ?_ NB227_246.out _; (with_reducible repeat (first | refine blk_drewN ?_ _  | refine blk_drew ?_  | refine blk_alloc ?_ _)); refine blk_far ?_ NB227_246.out _; (with_reducible repeat (first | refine blk_drewN ?_ _  | refine blk_drew ?_  | refine blk_alloc ?_ _)); refine blk_far ?_ NB227_246.out _; (with_reducible repeat (first | refine blk_drewN ?_ _  | refine blk_drew ?_  | refine blk_alloc ?_ _)); exact BK227.out))⟩; have n2_ : Aside0 (w38.heap[gb246]? = some (.cells #[.string t237, .string t238, .int .i64 t239, .bool t240, .string t241, .slice Ao37 t242.length co37] 40 (0, 0))) := ⟨(by rw [hw]; exact (put6_ BK246.out _ _ _ _ _ _))⟩; have n3_ : Aside0 (Below w.heap.size w w38) := ⟨(by rw [hw]; exact (by (repeat (with_reducible first | exact HB.out | refine below_set ?_ GE246.out))))⟩; clear hw HO244; clear BK227 BK246 HB; have HO244 := n0_; have BK227 := n1_; have BK246 := n2_; have HB := n3_; clear n0_ n1_ n2_ n3_; obtain ⟨hcz39_0, hcz39_1, hcz39_2, hcz39_3, hcz39_4, hcz39_5, hfz39_0, hfz39_1, hfz39_2, hfz39_3, hfz39_4, hfz39_5⟩ := cz6_ BK246.out) | ((with_reducible refine gate_callee (f := 70) rfl ?_); refine goesL_ (some 81) rfl rfl Tryz.func70 (by kernel_rfl) rfl #[.agg #[.string t237, .string t238, .int .i64 t239, .bool t240, .string t241, .slice Ao37 t242.length co37], .int .i64 x15_12, .string x17_12] rfl (by ((try simp only [List.map_toArray, List.map_cons, List.map_nil]); (rfl))) ?_; (with_reducible refine (client_proven.calls kj12 t237 t238 t239 t240 t241 (fun k_ => some k_ = (.slice Ao37 t242.length co37 : Value).ownBlock) (.slice Ao37 t242.length co37) t242 x15_12 x17_12 t247 t248 t249 t250 t251 t252 t255 t256 w _ ?side1 ?side2 A32.out).mono ?_); (case side1 => repeat ((with_reducible (exact HB.out)))); (case side2 => exact Kd.R_tight rfl HO244.out); rintro e w40 ⟨v253, rfl, ho0, hb, hkp⟩; refine ⟨_, rfl, ?_⟩; have n0_ := Aside0.mk (blk_kept BK227.out hkp (fun hs_ => (fun e_ => (Kd.R_ne HO244.out BK227.out (by decide)) e_) hs_)); have n1_ := Aside0.mk (blk_kept BK246.out hkp (fun hs_ => (fun e_ => (Kd.R_ne HO244.out BK246.out (by decide)) e_) hs_)); have n2_ := Aside0.mk (Kd.R_mono (ok' := fun k_ => True) ho0 (fun k_ hk_ => trivial)); have n3_ := Aside0.mk hb; clear BK227 BK246; clear HB HO244; have BK227 := n0_; have BK246 := n1_; have HO254 := n2_; have HB := n3_; clear n0_ n1_ n2_ n3_; clear hb hkp ho0; obtain ⟨hcz41_0, hcz41_1, hcz41_2, hcz41_3, hcz41_4, hcz41_5, hfz41_0, hfz41_1, hfz41_2, hfz41_3, hfz41_4, hfz41_5⟩ := cz6_ BK227.out; obtain ⟨Ao42, co42, eo42⟩ := Kd.R_slice HO254.out; subst eo42))
         refine bodyPost_ret (results_ctt rfl _ _ gb227 40 #[.string t247, .string t248, .int .i64 t249, .bool t250, .string t251, .slice Ao42 t252.length co42] (0, 0) _ rfl (put6_ BK227.out _ _ _ _ _ _) Tryz.underlying40 rfl (by kernel_rfl)) rfl ?_
         exact ⟨_, rfl, by (with_reducible repeat (first | apply Kd.R_alloc  | apply Kd.R_drewN  | apply Kd.R_drew)); exact Kd.R_mono (R_far6 (Kd.R_types HO254.out BK227.out (by decide)) (fun _ hk => hk.2)) (fun _ hk => trivial), by (repeat (with_reducible first | exact HB.out | refine below_set ?_ GE227.out))⟩
       · replace c31 := Bool.eq_false_iff.mpr c31
         subst c31
         have H1 : (some ((⟨#[]⟩ : ByteArray), (⟨#[]⟩ : ByteArray), 0, false, (⟨#[]⟩ : ByteArray), ([] : List ByteArray), 0, 111)) = some (r1, r2, r3, r4, r5, r6, r7, r8) := by rw [if_neg (show ¬ (false = true) by decide)] at H; exact H
         clear H
         have H := H1
         clear H1
         simp only [Option.some.injEq, Prod.mk.injEq] at H
         obtain ⟨rfl, rfl, rfl, rfl, rfl, rfl, rfl, rfl⟩ := H
         go_wp2_with (first | ((with_reducible refine gate_callee (f := 29) rfl ?_); refine goesL_ (some 72) rfl rfl Tryz.func29 (by kernel_rfl) rfl #[.slice A0 l0.length c0, .string x16_12] rfl (by ((try simp only [List.map_toArray, List.map_cons, List.map_nil]); (rfl))) ?_; (with_reducible refine (client_Find.calls kj12 _ _ l0 x16_12 t237 t238 t239 t240 t241 t242 false _ ?side1 ?side2 A30.out).mono ?_); (case side1 => repeat (exact (Kd.C_below HR0.out HB.out))); (case side2 => exact HC0.out); rintro e w43 ⟨v243, rfl, ho0, hb⟩; refine ⟨_, rfl, ?_⟩; have HO244 := Aside0.mk (Kd.R_lower ho0 (below_size HB.out)); replace BK227 := Aside0.mk (blk_below BK227.out hb); replace HB := Aside0.mk (below_step HB.out hb); clear hb ho0) | ((with_reducible refine gate_dst (N := 19) rfl ?_); refine box_event (by rfl) (N := 19) (by rfl) (cs := #[.string (⟨#[]⟩ : ByteArray), .string (⟨#[]⟩ : ByteArray), .int .i64 0, .bool false, .string (⟨#[]⟩ : ByteArray), .slice none 0 0]) (t := 40) (by go_simp) ?_; intro gb246 hg w44 hbox hb; replace HO244 := Aside0.mk (Kd.R_below HO244.out hb); have BK246 := Aside0.mk hbox; have GW246 := Aside0.mk ((by rw [hg]; exact (below_size HB.out) : w.heap.size ≤ gb246)); have GE246 := Aside0.mk ((by rw [hg]; exact (below_size HB.out) : w.heap.size ≤ gb246)); replace HB := Aside0.mk (below_step HB.out hb); have NB227_246 := Aside0.mk ((by rw [hg]; exact Nat.ne_of_lt (blk_lt BK227.out) : gb227 ≠ gb246)); have NB246_227 := Aside0.mk ((by rw [hg]; exact Nat.ne_of_gt (blk_lt BK227.out) : gb246 ≠ gb227)); replace BK227 := Aside0.mk (blk_below BK227.out hb); clear hb hbox hg; have hnb45 := NB246_227.out; have hnc45 := NB227_246.out; obtain ⟨hcz46_0, hcz46_1, hcz46_2, hcz46_3, hcz46_4, hcz46_5, hfz46_0, hfz46_1, hfz46_2, hfz46_3, hfz46_4, hfz46_5⟩ := cz6_ BK246.out; obtain ⟨Ao47, co47, eo47⟩ := Kd.R_slice HO244.out; subst eo47; obtain ⟨hcz48_0, hcz48_1, hcz48_2, hcz48_3, hcz48_4, hcz48_5, hfz48_0, hfz48_1, hfz48_2, hfz48_3, hfz48_4, hfz48_5⟩ := cz6_ BK227.out))
         refine bodyPost_ret (results_ctt rfl _ _ gb227 40 #[.string (⟨#[]⟩ : ByteArray), .string (⟨#[]⟩ : ByteArray), .int .i64 0, .bool false, .string (⟨#[]⟩ : ByteArray), .slice none 0 0] (0, 0) _ rfl (by (with_reducible repeat (first | refine blk_drewN ?_ _  | refine blk_drew ?_  | refine blk_alloc ?_ _)); refine blk_put (cs := #[.string (⟨#[]⟩ : ByteArray), .string (⟨#[]⟩ : ByteArray), .int .i64 0, .bool false, .string (⟨#[]⟩ : ByteArray), .slice none 0 0]) ?_ 5 _ rfl; (with_reducible repeat (first | refine blk_drewN ?_ _  | refine blk_drew ?_  | refine blk_alloc ?_ _)); refine blk_put (cs := #[.string (⟨#[]⟩ : ByteArray), .string (⟨#[]⟩ : ByteArray), .int .i64 0, .bool false, .string x228004_12, .slice none 0 0]) ?_ 4 _ rfl; (with_reducible repeat (first | refine blk_drewN ?_ _  | refine blk_drew ?_  | refine blk_alloc ?_ _)); refine blk_put (cs := #[.string (⟨#[]⟩ : ByteArray), .string (⟨#[]⟩ : ByteArray), .int .i64 0, .bool x228003_12, .string x228004_12, .slice none 0 0]) ?_ 3 _ rfl; (with_reducible repeat (first | refine blk_drewN ?_ _  | refine blk_drew ?_  | refine blk_alloc ?_ _)); refine blk_put (cs := #[.string (⟨#[]⟩ : ByteArray), .string (⟨#[]⟩ : ByteArray), .int .i64 x228002_12, .bool x228003_12, .string x228004_12, .slice none 0 0]) ?_ 2 _ rfl; (with_reducible repeat (first | refine blk_drewN ?_ _  | refine blk_drew ?_  | refine blk_alloc ?_ _)); refine blk_put (cs := #[.string (⟨#[]⟩ : ByteArray), .string x228001_12, .int .i64 x228002_12, .bool x228003_12, .string x228004_12, .slice none 0 0]) ?_ 1 _ rfl; (with_reducible repeat (first | refine blk_drewN ?_ _  | refine blk_drew ?_  | refine blk_alloc ?_ _)); refine blk_put (cs := #[.string x228000_12, .string x228001_12, .int .i64 x228002_12, .bool x228003_12, .string x228004_12, .slice none 0 0]) ?_ 0 _ rfl; (with_reducible repeat (first | refine blk_drewN ?_ _  | refine blk_drew ?_  | refine blk_alloc ?_ _)); refine blk_far ?_ NB227_246.out _; (with_reducible repeat (first | refine blk_drewN ?_ _  | refine blk_drew ?_  | refine blk_alloc ?_ _)); refine blk_far ?_ NB227_246.out _; (with_reducible repeat (first | refine blk_drewN ?_ _  | refine blk_drew ?_  | refine blk_alloc ?_ _)); refine blk_far ?_ NB227_246.out _; (with_reducible repeat (first | refine blk_drewN ?_ _  | refine blk_drew ?_  | refine blk_alloc ?_ _)); refine blk_far ?_ NB227_246.out _; (with_reducible repeat (first | refine blk_drewN ?_ _  | refine blk_drew ?_  | refine blk_alloc ?_ _)); refine blk_far ?_ NB227_246.out _; (with_reducible repeat (first | refine blk_drewN ?_ _  | refine blk_drew ?_  | refine blk_alloc ?_ _)); refine blk_far ?_ NB227_246.out _; (with_reducible repeat (first | refine blk_drewN ?_ _  | refine blk_drew ?_  | refine blk_alloc ?_ _)); exact BK227.out) Tryz.underlying40 rfl (by kernel_rfl)) rfl ?_
         exact ⟨_, rfl, by (exact Kd.R_nil _ _ _ _ _), by (repeat (with_reducible first | exact HB.out | refine below_set ?_ GE227.out | refine below_set ?_ GE246.out))⟩
end Go.Proofs.YtmimipgmhgalaaaGreatDoor.PAll
end
section
namespace Go.Proofs.YtmimipgmhgalaaaGreatDoor.Pure
open Go.RowKit Go.Proofs.YtmimipgmhgalaaaGreatDoorW.PrintWords Go.Proofs.YtmimipgmhgalaaaGreatDoor.Plain Go.Proofs.YtmimipgmhgalaaaGreatDoor.Spec Go.Proofs.YtmimipgmhgalaaaGreatDoor.PAll
set_option linter.unusedSimpArgs false
set_option linter.unusedVariables false
abbrev aId : ByteArray := ⟨#[99, 108, 105, 101, 110, 116, 95, 105, 100]⟩
abbrev aSecret : ByteArray := ⟨#[99, 108, 105, 101, 110, 116, 95, 115, 101, 99, 114, 101, 116]⟩
def zX (e : Int) : CC × Int × Int := (zeroC, 0, e)
def flatX (r : CC × Int × Int) : ByteArray × ByteArray × Int × Bool × ByteArray × List ByteArray × Int × Int := (r.1.f0, r.1.f1, r.1.f2, r.1.f3, r.1.f4, r.1.f5, r.2.1, r.2.2)
def shownC (c : CC) (p : Int) (word : ByteArray) : CC × Int × Int :=
  if p = 1 ∧ c.f1.toList = [] then zX 112 else if c.f1.toList = word.toList then (if c.f1.toList = [] then (c, 0, 0) else (c, p, 0)) else zX 112
def seenL (l : List CC) (p : Int) (name word : ByteArray) : CC × Int × Int := if (foundC name l).2 = true then shownC (foundC name l).1 p word else zX 111
def oneV (n : ByteArray) (ps : List S68) : ByteArray × Bool × Int := foldO n ps ⟨#[]⟩ 0
def authL (l : List CC) (header : ByteArray) (ps : List S68) (B : ByteArray × ByteArray × Int) : CC × Int × Int :=
  if (oneV aId ps).2.2 = 0 ∧ (oneV aSecret ps).2.2 = 0 then
    (if header.toList = [] then (if (oneV aId ps).2.1 = true then seenL l 2 (oneV aId ps).1 (oneV aSecret ps).1 else zX 7)
    else if B.2.2 = 0 then (if (oneV aSecret ps).2.1 = true then zX 34 else if (oneV aId ps).2.1 = true ∧ (oneV aId ps).1.toList ≠ B.1.toList then zX 112 else seenL l 1 B.1 B.2.1) else zX B.2.2)
  else zX 34
theorem foundC_mem (a : ByteArray) : ∀ l : List CC, (foundC a l).1 ∈ l ∨ (foundC a l).1 = zeroC
  | [] => .inr rfl
  | x :: r => by
    unfold foundC
    split
    · exact .inl (by simp)
    · rcases foundC_mem a r with h | h
      · exact .inl (by simp [h])
      · exact .inr h
theorem foldO_size (n : ByteArray) (M : Nat) : ∀ (ps : List S68) (v : ByteArray) (k : Nat), v.size ≤ M → (∀ p ∈ ps, p.f1.size ≤ M) → (foldO n ps v k).1.size ≤ M
  | [], v, k, hv, _ => by
    unfold foldO
    split
    · exact Nat.zero_le _
    · exact hv
  | p :: r, v, k, hv, h => by
    unfold foldO
    split
    · exact foldO_size n M r _ _ (h p (by simp)) (fun q hq => h q (by simp [hq]))
    · exact foldO_size n M r _ _ hv (fun q hq => h q (by simp [hq]))
theorem one_of (ps : List S68) (hl : ps.length ≤ 4000000000000) (n : ByteArray) : Ev (fun k => urlform_One.f k ps n) (oneV n ps) := by
  have h := one_ev ps hl n ps.length 0 0 ⟨#[]⟩ (by omega) (Nat.le_refl _)
  rw [List.drop_zero] at h
  unfold urlform_One.f
  exact h
theorem proven_ev (c : CC) (p : Int) (word : ByteArray) (hp : p = 1 ∨ p = 2) (h1 : c.f1.size ≤ 140737488355328) (h2 : word.size ≤ 140737488355328) :
    Ev (fun k => client_proven.f k c.f0 c.f1 c.f2 c.f3 c.f4 c.f5 p word) (flatX (shownC c p word)) := by
  have hs : client_same.f c.f1 word = some (decide (c.f1 = word)) := if_pos ⟨h1, h2⟩
  have hj (hh : ¬ (p = 1 ∧ c.f1.toList = [])) : Ev (fun k => client_proven.j0 k p word c.f0 c.f1 c.f2 c.f3 c.f4 c.f5) (flatX (shownC c p word)) := by
    refine Ev.step (f := fun _ => some _) (fun k => ?_) (Ev.now _)
    simp only [client_proven.j0]
    rw [hs, Option.bind_some]
    unfold shownC
    rw [if_neg hh]
    by_cases e : c.f1 = word
    · rw [if_pos (decide_eq_true e), if_pos (show c.f1.toList = word.toList by rw [e])]
      split <;> rfl
    · rw [if_neg (by simpa using e), if_neg (fun h => e (toList_inj h))]
      rfl
  unfold client_proven.f
  rcases hp with rfl | rfl
  · refine Ev.pos rfl ?_
    by_cases e : c.f1.toList = []
    · refine Ev.pos e (Ev.eq (Ev.now _) ?_)
      unfold shownC
      rw [if_pos ⟨rfl, e⟩]
      rfl
    · exact Ev.neg e (hj (fun h => e h.2))
  · exact Ev.neg (by omega) (Ev.pos rfl (hj (fun h => by omega)))
theorem seen_ev (l : List CC) (hl : SmallC l) (hz : ∀ x ∈ l, x.f1.size ≤ 140737488351232) (p : Int) (hp : p = 1 ∨ p = 2) (name word : ByteArray) (hw : word.size ≤ 140737488355328) :
    Ev (fun k => client_Authenticate.j1 k l p name word) (flatX (seenL l p name word)) := by
  have hc : (foundC name l).1.f1.size ≤ 140737488355328 := by
    rcases foundC_mem name l with h | h
    · have := hz _ h; omega
    · rw [h]; decide
  refine Ev.step (fun k => by simp only [client_Authenticate.j1]; rfl) (Ev.bind (find_ev l hl name) ?_)
  unfold seenL
  by_cases h : (foundC name l).2 = true
  · rw [if_pos h]
    exact Ev.pos h (Ev.bind (proven_ev _ p word hp hc hw) (Ev.now _))
  · rw [if_neg h]
    exact Ev.neg h (Ev.now _)
theorem auth_ev (l : List CC) (hl : SmallC l) (hz : ∀ x ∈ l, x.f1.size ≤ 140737488351232) (header : ByteArray) (ps : List S68) (hn : ps.length ≤ 4000000000000) (hps : ∀ p ∈ ps, p.f1.size ≤ 140737488351232)
    (B : ByteArray × ByteArray × Int) (hB : header.toList ≠ [] → Ev (fun k => client_Basic.f k header) B) (hB2 : B.2.1.size ≤ 65536) : Ev (fun k => client_Authenticate.f k l header ps) (flatX (authL l header ps B)) := by
  have hw : (oneV aSecret ps).1.size ≤ 140737488355328 := by
    have := foldO_size aSecret 140737488351232 ps ⟨#[]⟩ 0 (Nat.zero_le _) hps
    unfold oneV; omega
  have hbad : Ev (fun k => client_Authenticate.j0 k l header (oneV aId ps).1 (oneV aId ps).2.1 (oneV aSecret ps).1 (oneV aSecret ps).2.1 true) (flatX (zX 34)) :=
    Ev.step (f := fun _ => some _) (fun k => by simp only [client_Authenticate.j0, if_true]; rfl) (Ev.now _)
  unfold client_Authenticate.f
  refine Ev.bind (one_of ps hn aId) (Ev.bind (one_of ps hn aSecret) ?_)
  unfold authL
  by_cases e1 : (oneV aId ps).2.2 = 0
  · refine Ev.pos e1 ?_
    by_cases e2 : (oneV aSecret ps).2.2 = 0
    · rw [if_pos ⟨e1, e2⟩, show ((oneV aSecret ps).2.2 != 0) = false by rw [e2]; rfl]
      generalize oneV aId ps = a at *
      generalize oneV aSecret ps = s at *
      refine Ev.step (fun k => by simp only [client_Authenticate.j0, Bool.false_eq_true, if_false]; rfl) ?_
      by_cases e3 : header.toList = []
      · rw [if_pos e3]
        refine Ev.pos e3 ?_
        by_cases e4 : a.2.1 = true
        · rw [if_pos e4]
          exact Ev.pos e4 (seen_ev l hl hz 2 (.inr rfl) _ _ hw)
        · rw [if_neg e4]
          exact Ev.neg e4 (Ev.now _)
      · rw [if_neg e3]
        refine Ev.neg e3 (Ev.bind (hB e3) ?_)
        have hs := seen_ev l hl hz 1 (.inl rfl) B.1 B.2.1 (by omega)
        by_cases e5 : B.2.2 = 0
        · rw [if_pos e5]
          refine Ev.pos e5 ?_
          by_cases e6 : s.2.1 = true
          · rw [if_pos e6]
            exact Ev.pos e6 (Ev.now _)
          · rw [if_neg e6]
            refine Ev.neg e6 ?_
            by_cases e7 : a.2.1 = true
            · refine Ev.pos e7 ?_
              by_cases e8 : a.1.toList = B.1.toList
              · rw [if_neg (fun h => h.2 e8)]
                exact Ev.pos e8 hs
              · rw [if_pos ⟨e7, e8⟩]
                exact Ev.neg e8 (Ev.now _)
            · rw [if_neg (fun h => e7 h.1)]
              exact Ev.neg e7 hs
        · rw [if_neg e5]
          exact Ev.neg e5 (Ev.now _)
    · rw [if_neg (fun h => e2 h.2), show ((oneV aSecret ps).2.2 != 0) = true by rw [bne_iff_ne]; exact e2]
      exact hbad
  · rw [if_neg (fun h => e1 h.1)]
    exact Ev.neg e1 hbad
end Go.Proofs.YtmimipgmhgalaaaGreatDoor.Pure
end
section
namespace Go.Proofs.YtmimipgmhgalaaaGreatDoor.Pure
open Go.RowKit Go.Proofs.YtmimipgmhgalaaaGreatDoorW.PrintWords Go.Proofs.YtmimipgmhgalaaaGreatDoor.Plain Go.Proofs.YtmimipgmhgalaaaGreatDoor.Spec Go.Proofs.YtmimipgmhgalaaaGreatDoor.PAll
set_option linter.unusedSimpArgs false
set_option linter.unusedVariables false
theorem form_ev (ps : List S68) (hn : ps.length ≤ 4000000000000) : Ev (fun k => wicketlaw11_form.f k ps) (ps.map to61) := by
  have h : ∀ (m i : Nat), i + m = ps.length → Ev (fun k => wicketlaw11_form.l0 k ps ((ps.take i).map to61) (i : Int)) (ps.map to61) := by
    intro m
    induction m with
    | zero =>
      intro i hi
      refine Ev.step (f := fun _ => some (ps.map to61)) (fun k => ?_) (Ev.now _)
      simp only [wicketlaw11_form.l0]; rw [if_neg (by omega), List.take_of_length_le (by omega)]
    | succ m ih =>
      intro i hi
      have hlt : i < ps.length := by omega
      have hrd : rd_T68 ps (i : Int) = ps[i] := by simp [rd_T68, hlt]
      refine Ev.step (f := fun k => wicketlaw11_form.l0 k ps ((ps.take (i + 1)).map to61) ((i + 1 : Nat) : Int)) (fun k => ?_) (ih (i + 1) (by omega))
      simp only [wicketlaw11_form.l0]
      rw [if_pos (by omega), if_pos (by omega), if_pos (by rw [List.length_map, List.length_take]; omega), hrd, w64 (by omega) (by omega), ← take_snoc ps i hlt, List.map_append]
      rfl
  exact h ps.length 0 (by omega)
theorem refone_of (ps : List S68) (hl : ps.length ≤ 4000000000000) (n : ByteArray) : Ev (fun k => wicketref03_One.f k (ps.map to61) n) (oneV n ps) := by
  have h := refone_ev ps hl n ps.length 0 0 ⟨#[]⟩ (by omega) (Nat.le_refl _)
  rw [List.drop_zero] at h
  unfold wicketref03_One.f
  exact h
end Go.Proofs.YtmimipgmhgalaaaGreatDoor.Pure
end
section
namespace Go.Proofs.YtmimipgmhgalaaaGreatDoor.Pure
open Go.RowKit Go.Proofs.YtmimipgmhgalaaaGreatDoorW.PrintWords Go.Proofs.YtmimipgmhgalaaaGreatDoor.Plain Go.Proofs.YtmimipgmhgalaaaGreatDoor.PAll
set_option linter.unusedVariables false
theorem foldO_err (n : ByteArray) : ∀ (ps : List S68) (v : ByteArray) (k : Nat), (foldO n ps v k).2.2 = 0 ∨ (foldO n ps v k).2.2 = 34
  | [], v, k => by unfold foldO; split <;> simp
  | p :: r, v, k => by
    unfold foldO
    split
    · exact foldO_err n r _ _
    · exact foldO_err n r _ _
theorem weightP (ps : List S68) : ps.length ≤ (ps.map fun y => ((y.f0.size + 1) + (y.f1.size + 1) + 1)).sum := by
  induction ps with
  | nil => simp
  | cons p r ih => simp only [List.map_cons, List.sum_cons, List.length_cons]; omega
theorem authL_small (l : List CC) (hl : ∀ x ∈ l, x.f5.length ≤ 4000000000000) (h : ByteArray) (ps : List S68) (B : ByteArray × ByteArray × Int) : (authL l h ps B).1.f5.length ≤ 4000000000000 := by
  have hz : ∀ e, (zX e).1.f5.length ≤ 4000000000000 := fun e => Nat.zero_le _
  have hs : ∀ p n w, (seenL l p n w).1.f5.length ≤ 4000000000000 := by
    intro p n w
    have hf := foundC_small n l hl
    unfold seenL
    split
    · unfold shownC
      split
      · exact hz _
      · split
        · split
          · exact hf
          · exact hf
        · exact hz _
    · exact hz _
  unfold authL
  repeat' split
  all_goals first | exact hz _ | exact hs _ _ _
theorem auth_at (l : List CC) (hl : SmallC l) (hz : ∀ x ∈ l, x.f1.size ≤ 140737488351232) (header : ByteArray) (ps : List S68) (hn : ps.length ≤ 4000000000000) (hps : ∀ p ∈ ps, p.f1.size ≤ 140737488351232) (w : World) (hT : FoldT w)
    (B : ByteArray × ByteArray × Int) (hB1 : (header.size ≤ 1024 → 6 ≤ header.size → asciiS (header.extract 0 5) = true) → Ev (fun k => client_Basic.f k header) B) (hB3 : header.size ≤ 1024 → 6 ≤ header.size → asciiS (header.extract 0 5) = false → B = E3) (hB4 : B.2.1.size ≤ 65536) :
    AuthAt w l header ps (authL l header ps B).1 (authL l header ps B).2.1 (authL l header ps B).2.2 := by
  intro V A C ca cb hb h1 h2 h3 h4
  by_cases hw : header.size ≤ 1024 ∧ 6 ≤ header.size ∧ asciiS (header.extract 0 5) = false
  · obtain ⟨w1, w2, w3⟩ := hw
    obtain rfl := hB3 w1 w2 w3
    have hE : Ev (fun k => (urlform_One.f k ps aId).bind fun x => (urlform_One.f k ps aSecret).bind fun y => some (x, y)) (oneV aId ps, oneV aSecret ps) := Ev.bind (one_of ps hn aId) (Ev.bind (one_of ps hn aSecret) (Ev.now _))
    obtain ⟨k, hk⟩ := hE.rounds
    obtain ⟨o1, g1, hk⟩ := Option.bind_eq_some_iff.1 hk
    obtain ⟨o2, g2, hk⟩ := Option.bind_eq_some_iff.1 hk
    simp only [Option.some.injEq, Prod.mk.injEq] at hk
    obtain ⟨rfl, rfl⟩ := hk
    have hh : header.toList ≠ [] := by
      intro h
      have h5 : header.data.toList = [] := by rw [← ByteArray.toList_eq]; exact h
      have h6 : header.data.toList.length = header.size := by rw [Array.length_toList]; rfl
      rw [h5, List.length_nil] at h6
      omega
    have e : authL l header ps E3 = zX (wideE (oneV aId ps).2.2 (oneV aSecret ps).2.2) := by
      unfold authL wideE
      by_cases h : (oneV aId ps).2.2 = 0 ∧ (oneV aSecret ps).2.2 = 0
      · rw [if_pos h, if_pos h, if_neg hh]; rfl
      · rw [if_neg h, if_neg h]
    rw [e]
    refine (auth_wide k V A l.length ca header C cb ps h3 h4 w1 w2 w3 (hT.below hb) _ _ _ _ _ _ g1 g2 (foldO_err aId ps _ _) (foldO_err aSecret ps _ _)).mono ?_
    rintro e' w' ⟨rfl, hb'⟩
    exact ⟨.slice none 0 0, rfl, Kd.R_nil _ _ _ _ _, hb'⟩
  · have hasc : header.size ≤ 1024 → 6 ≤ header.size → asciiS (header.extract 0 5) = true := fun e1 e2 => by
      cases h : asciiS (header.extract 0 5) with
      | true => rfl
      | false => exact absurd ⟨e1, e2, h⟩ hw
    obtain ⟨k, hk⟩ := (auth_ev l hl hz header ps hn hps B (fun _ => hB1 hasc) hB4).rounds
    exact client_Authenticate.calls k A ca l header C cb ps _ _ _ _ _ _ _ _ V h1 h2 h3 h4 hk
end Go.Proofs.YtmimipgmhgalaaaGreatDoor.Pure
end
section
namespace Go.Proofs.YtmimipgmhgalaaaGreatDoor.PAll
open Go.RowKit Go.Proofs.YtmimipgmhgalaaaGreatDoorW.PrintWords
structure S74 where
  f0 : (List S40)
  f1 : Int
  f2 : ByteArray
  f3 : ByteArray
  f4 : (List S68)
def k74 : Kd S74 := Kd.iso (Kd.pair (Kd.slice 40 k40) (Kd.pair (Kd.int .i64) (Kd.pair Kd.string (Kd.pair Kd.string (Kd.slice 68 k68))))) (fun x : S74 => (x.f0, x.f1, x.f2, x.f3, x.f4))
theorem k74_open {w : World} {x : S74} {cs : List Value} (h : k74.K w x cs) : ∃ A0 c0 A4 c4, cs = [.slice A0 x.f0.length c0, .int .i64 x.f1, .string x.f2, .string x.f3, .slice A4 x.f4.length c4] ∧ x.f0.length ≤ c0 ∧ k40.C w A0 x.f0.length x.f0 ∧ x.f4.length ≤ c4 ∧ k68.C w A4 x.f4.length x.f4 := by
  obtain ⟨_, _, rfl, ⟨A0, c0, rfl, l0, g0⟩, ⟨_, _, rfl, rfl, ⟨_, _, rfl, rfl, ⟨_, _, rfl, rfl, ⟨A4, c4, rfl, l4, g4⟩⟩⟩⟩⟩ := h
  exact ⟨A0, c0, A4, c4, rfl, l0, g0, l4, g4⟩
end Go.Proofs.YtmimipgmhgalaaaGreatDoor.PAll
end
section
namespace Go.Proofs.YtmimipgmhgalaaaGreatDoor.Pure
open Go.RowKit Go.Proofs.YtmimipgmhgalaaaGreatDoorW.PrintWords Go.Proofs.YtmimipgmhgalaaaGreatDoor.Plain Go.Proofs.YtmimipgmhgalaaaGreatDoor.PAll
set_option linter.unusedVariables false
theorem tabs_proof {W : World} (h : laidMet Tryz.prog Rows.clientProofUptoRow.laid W) : FoldT W := foldT_of_laid h (by simp [Rows.clientProofUptoRow]) (by simp [Rows.clientProofUptoRow])
theorem foundC_id (a : ByteArray) : ∀ l : List CC, (foundC a l).2 = true → (foundC a l).1.f0.toList = a.toList
  | [], h => by cases h
  | x :: r, h => by
    unfold foundC at h ⊢
    by_cases e : x.f0.toList = a.toList
    · rw [if_pos e]; exact e
    · rw [if_neg e] at h ⊢; exact foundC_id a r h
theorem foundC_again (a : ByteArray) (l : List CC) (h : (foundC a l).2 = true) : foundC (foundC a l).1.f0 l = ((foundC a l).1, true) := by
  have e : (foundC a l).1.f0 = a := toList_inj (foundC_id a l h)
  rw [e]
  exact Prod.ext rfl h
theorem toList_nil {s : ByteArray} (h : s.toList = []) : s = ⟨#[]⟩ := toList_inj (by rw [h, ByteArray.toList_eq])
theorem one_has (n : ByteArray) : ∀ (ps : List S68) (v : ByteArray) (k : Nat), (foldO n ps v k).2.2 = 0 → (foldO n ps v k).2.1 = ((foldO n ps v k).1.toList != [])
  | [], v, k, h => by
    unfold foldO at h ⊢
    by_cases hk : k > 1
    · rw [if_pos hk] at h; cases h
    · rw [if_neg hk]
  | p :: r, v, k, h => by
    unfold foldO at h ⊢
    by_cases hp : p.f0.toList = n.toList
    · rw [if_pos hp] at h ⊢; exact one_has n r _ _ h
    · rw [if_neg hp] at h ⊢; exact one_has n r _ _ h
theorem authL_good (l : List CC) (hd : ByteArray) (ps : List S68) (B : ByteArray × ByteArray × Int) (x : CC) (n : Int) (h : authL l hd ps B = (x, n, 0)) :
    foundC x.f0 l = (x, true) ∧ ((n = 0 ∧ x.f1 = ⟨#[]⟩ ∧ (oneV aSecret ps).2.1 = false ∧ (oneV aId ps).1 = x.f0 ∧ hd = ⟨#[]⟩) ∨ (n = 2 ∧ x.f1.toList ≠ [] ∧ (oneV aSecret ps).2.1 = true ∧ (oneV aSecret ps).1 = x.f1 ∧ (oneV aId ps).1 = x.f0 ∧ hd = ⟨#[]⟩) ∨
      (n = 1 ∧ x.f1.toList ≠ [] ∧ B.2.2 = 0 ∧ B.1 = x.f0 ∧ B.2.1 = x.f1 ∧ (oneV aSecret ps).2.1 = false ∧ ((oneV aId ps).1 = ⟨#[]⟩ ∨ (oneV aId ps).1 = x.f0))) := by
  have hz : ∀ e : Int, e ≠ 0 → zX e ≠ (x, n, 0) := fun e he h => he (congrArg (fun z => z.2.2) h)
  have hs : ∀ (p : Int) (name word : ByteArray), seenL l p name word = (x, n, 0) → (foundC name l).2 = true ∧ (foundC name l).1 = x ∧ ¬ (p = 1 ∧ x.f1.toList = []) ∧ x.f1.toList = word.toList ∧ ((x.f1.toList = [] ∧ n = 0) ∨ (x.f1.toList ≠ [] ∧ n = p)) := by
    intro p name word h
    unfold seenL at h
    by_cases h1 : (foundC name l).2 = true
    · rw [if_pos h1] at h
      unfold shownC at h
      by_cases h2 : p = 1 ∧ (foundC name l).1.f1.toList = []
      · rw [if_pos h2] at h; exact absurd h (hz 112 (by decide))
      · rw [if_neg h2] at h
        by_cases h3 : (foundC name l).1.f1.toList = word.toList
        · rw [if_pos h3] at h
          by_cases h4 : (foundC name l).1.f1.toList = []
          · rw [if_pos h4] at h
            simp only [Prod.mk.injEq, and_true] at h
            obtain ⟨rfl, rfl⟩ := h
            exact ⟨h1, rfl, h2, h3, .inl ⟨h4, rfl⟩⟩
          · rw [if_neg h4] at h
            simp only [Prod.mk.injEq, and_true] at h
            obtain ⟨rfl, rfl⟩ := h
            exact ⟨h1, rfl, h2, h3, .inr ⟨h4, rfl⟩⟩
        · rw [if_neg h3] at h; exact absurd h (hz 112 (by decide))
    · rw [if_neg h1] at h; exact absurd h (hz 111 (by decide))
  unfold authL at h
  by_cases e : (oneV aId ps).2.2 = 0 ∧ (oneV aSecret ps).2.2 = 0
  · rw [if_pos e] at h
    have ha : (oneV aId ps).2.1 = ((oneV aId ps).1.toList != []) := one_has aId ps _ _ e.1
    have hb : (oneV aSecret ps).2.1 = ((oneV aSecret ps).1.toList != []) := one_has aSecret ps _ _ e.2
    generalize oneV aId ps = a at *
    generalize oneV aSecret ps = s at *
    by_cases e3 : hd.toList = []
    · rw [if_pos e3] at h
      by_cases e4 : a.2.1 = true
      · rw [if_pos e4] at h
        obtain ⟨g1, g2, g3, g4, g5⟩ := hs _ _ _ h
        have hid : x.f0 = a.1 := by rw [← g2]; exact toList_inj (foundC_id _ _ g1)
        have hag := foundC_again a.1 l g1
        rw [g2] at hag
        refine ⟨hag, ?_⟩
        rcases g5 with ⟨g6, rfl⟩ | ⟨g6, rfl⟩
        · refine .inl ⟨rfl, toList_nil g6, ?_, hid.symm, toList_nil e3⟩
          rw [hb, ← g4, g6]; rfl
        · refine .inr (.inl ⟨rfl, g6, ?_, (toList_inj g4).symm, hid.symm, toList_nil e3⟩)
          rw [hb, ← g4, bne_iff_ne]; exact g6
      · rw [if_neg e4] at h; exact absurd h (hz 7 (by decide))
    · rw [if_neg e3] at h
      by_cases e5 : B.2.2 = 0
      · rw [if_pos e5] at h
        by_cases e6 : s.2.1 = true
        · rw [if_pos e6] at h; exact absurd h (hz 34 (by decide))
        · rw [if_neg e6] at h
          by_cases e7 : a.2.1 = true ∧ a.1.toList ≠ B.1.toList
          · rw [if_pos e7] at h; exact absurd h (hz 112 (by decide))
          · rw [if_neg e7] at h
            obtain ⟨g1, g2, g3, g4, g5⟩ := hs _ _ _ h
            have hid : x.f0 = B.1 := by rw [← g2]; exact toList_inj (foundC_id _ _ g1)
            have hag := foundC_again B.1 l g1
            rw [g2] at hag
            refine ⟨hag, .inr (.inr ?_)⟩
            rcases g5 with ⟨g6, rfl⟩ | ⟨g6, rfl⟩
            · exact absurd ⟨rfl, g6⟩ g3
            · refine ⟨rfl, g6, e5, hid.symm, (toList_inj g4).symm, by simpa using e6, ?_⟩
              by_cases e8 : a.2.1 = true
              · right
                have : a.1.toList = B.1.toList := Classical.byContradiction fun hn => e7 ⟨e8, hn⟩
                rw [hid]; exact toList_inj this
              · left
                rw [ha] at e8
                exact toList_nil (by simpa using e8)
      · rw [if_neg e5] at h; exact absurd h (hz _ e5)
  · rw [if_neg e] at h; exact absurd h (hz 34 (by decide))
theorem authL_bad (l : List CC) (hd : ByteArray) (ps : List S68) (B : ByteArray × ByteArray × Int) (x : CC) (n er : Int) (h : authL l hd ps B = (x, n, er)) (he : er ≠ 0) : n = 0 ∧ x.f0 = ⟨#[]⟩ ∧ x.f5 = [] := by
  have hz : ∀ e : Int, zX e = (x, n, er) → n = 0 ∧ x.f0 = ⟨#[]⟩ ∧ x.f5 = [] := fun e h => by
    unfold zX at h
    simp only [Prod.mk.injEq] at h
    obtain ⟨rfl, rfl, _⟩ := h
    exact ⟨rfl, rfl, rfl⟩
  have hs : ∀ (p : Int) (name word : ByteArray), seenL l p name word = (x, n, er) → n = 0 ∧ x.f0 = ⟨#[]⟩ ∧ x.f5 = [] := by
    intro p name word h
    unfold seenL at h
    split at h
    · unfold shownC at h
      split at h
      · exact hz _ h
      · split at h
        · split at h
          · exact absurd (congrArg (fun z => z.2.2) h).symm he
          · exact absurd (congrArg (fun z => z.2.2) h).symm he
        · exact hz _ h
    · exact hz _ h
  unfold authL at h
  repeat' split at h
  all_goals first | exact hz _ h | exact hs _ _ _ h
theorem row_proof (l : List CC) (tn : Int) (ts a : ByteArray) (ps : List S68)
    (ok : (l.length * 88 ≤ 140737488351232 ∧ ∀ y, y ∈ l → (y.f0.size ≤ 140737488351232) ∧ (y.f1.size ≤ 140737488351232) ∧ ((Lit.int .i64 y.f2).wf = true) ∧ (True) ∧ (y.f4.size ≤ 140737488351232) ∧ (y.f5.length * 16 ≤ 140737488351232 ∧ ∀ z, z ∈ y.f5 → z.size ≤ 140737488351232)) ∧ ((Lit.int .i64 tn).wf = true) ∧ (ts.size ≤ 140737488351232) ∧ (a.size ≤ 140737488351232) ∧ (ps.length * 32 ≤ 140737488351232 ∧ ∀ y, y ∈ ps → (y.f0.size ≤ 140737488351232) ∧ (y.f1.size ≤ 140737488351232)))
    (hb : (((l.map weightC).sum + 1) + 1 + (ts.size + 1) + (a.size + 1) + ((ps.map fun y => ((y.f0.size + 1) + (y.f1.size + 1) + 1)).sum + 1) + 1) ≤ 1048576)
    (W : World) (A0 : Option Addr) (c0 : Nat) (A4 : Option Addr) (c4 : Nat) (hr0 : Kd.C k40 W A0 l.length l) (hc0 : l.length ≤ c0) (hr2 : Kd.C k68 W A4 ps.length ps) (hc2 : ps.length ≤ c4) (hT : FoldT W) :
    Calls Tryz.prog 12 #[.agg #[.slice A0 l.length c0, .int .i64 tn, .string ts, .string a, .slice A4 ps.length c4]] W fun e w' => e = .returned (.bool true) ∧ Below W.heap.size W w' := by
  obtain ⟨ok, _, _, ok1, ok2⟩ := ok
  have hl := smallC_of l _ (Nat.le_refl _) (by omega)
  have hn : ps.length ≤ 4000000000000 := by have := weightP ps; omega
  obtain ⟨B, hB1, hB2, hB3, hB4, hB5⟩ := basic_all a
  have hs := authL_small l hl.2 a ps B
  have hA := auth_at l hl (fun x hx => (ok.2 x hx).2.1) a ps hn (fun p hp => (ok2.2 p hp).2) W hT B hB1 hB3 hB5
  obtain ⟨⟨x, n, er⟩, hX⟩ : ∃ z, authL l a ps B = z := ⟨_, rfl⟩
  rw [hX] at hA hs
  by_cases he : er = 0
  · subst he
    obtain ⟨hf, hcase⟩ := authL_good l a ps B x n hX
    have hE : Ev (fun k => (wicketlaw11_copied.f k l).bind fun c => (wicketlaw11_all.f k l).bind fun m => (wicketref11_Find.f k m x.f0).bind fun y => (wicketlaw11_same.f k x.f0 x.f1 x.f2 x.f3 x.f4 x.f5 x.f0 x.f1 x.f2 x.f3 x.f4 x.f5).bind fun s => (wicketlaw11_form.f k ps).bind fun fp => (wicketref03_One.f k fp aId).bind fun o1 => (wicketref03_One.f k fp aSecret).bind fun o2 => (wicketref11_Basic.f k a).bind fun bb => some (c, y, s, o1, o2, bb)) (l, (x.f0, x.f1, x.f2, x.f3, x.f4, x.f5, true), true, oneV aId ps, oneV aSecret ps, B) := by
      refine Ev.bind (copied_ev l hl) (Ev.bind (all_ev l hl) (Ev.bind (a := (x.f0, x.f1, x.f2, x.f3, x.f4, x.f5, true)) ?_ (Ev.bind (same_ev _ _ _ _ _ _ hs) (Ev.bind (form_ev ps hn) (Ev.bind (refone_of ps hn aId) (Ev.bind (refone_of ps hn aSecret) (Ev.bind hB2 (Ev.now _))))))))
      have h := rfind_ev l hl x.f0
      rw [hf] at h
      exact h
    obtain ⟨k, hk⟩ := hE.rounds
    obtain ⟨c, g1, hk⟩ := Option.bind_eq_some_iff.1 hk
    obtain ⟨m, g2, hk⟩ := Option.bind_eq_some_iff.1 hk
    obtain ⟨y, g3, hk⟩ := Option.bind_eq_some_iff.1 hk
    obtain ⟨s, g4, hk⟩ := Option.bind_eq_some_iff.1 hk
    obtain ⟨fp, g5, hk⟩ := Option.bind_eq_some_iff.1 hk
    obtain ⟨o1, g6, hk⟩ := Option.bind_eq_some_iff.1 hk
    obtain ⟨o2, g7, hk⟩ := Option.bind_eq_some_iff.1 hk
    obtain ⟨bb, g8, hk⟩ := Option.bind_eq_some_iff.1 hk
    simp only [Option.some.injEq, Prod.mk.injEq] at hk
    obtain ⟨rfl, rfl, rfl, rfl, rfl, rfl⟩ := hk
    exact proof_walk k A0 c0 c tn ts a A4 c4 ps W hr0 hc0 hr2 hc2 c g1 x.f0 x.f1 x.f2 x.f3 x.f4 x.f5 n 0 hA ok2.1 (fun h => absurd rfl h) (fun _ => ⟨m, fp, _, _, _, _, _, _, _, _, _, g2, g3, g4, g5, g6, g7, g8, hcase⟩)
  · have hbd := authL_bad l a ps B x n er hX he
    obtain ⟨k, hk⟩ := (copied_ev l hl).rounds
    exact proof_walk k A0 c0 l tn ts a A4 c4 ps W hr0 hc0 hr2 hc2 l hk x.f0 x.f1 x.f2 x.f3 x.f4 x.f5 n er hA ok2.1 (fun _ => hbd) (fun h => absurd h he)
end Go.Proofs.YtmimipgmhgalaaaGreatDoor.Pure
end
