/-
  Part 5 of what the proof of ClientProof leans on: words of the print, walks of functions and plain laws; put together by pack.py, a program of this session.
-/
import Derived.Shelf.Strings.Builder1
import Derived.Shelf.Strings.Builder2
import Derived.Shelf.Strings.OnBuilder
import Derived.Shelf.Strings.Trim
import Derived.Shelf.Small.Utf8
import Derived.Shelf.Small.Strs
import Derived.Shelf.Strings.BuilderF
import Derived.Shelf.Strings.BuilderK
import Derived.Shelf.Strings.Builder2Cap
import Derived.Shelf.Strings.Search1
import Derived.Shelf.Strings.Search2
import Derived.Shelf.Strings.Search3
import Derived.Shelf.Strings.Cut
import Derived.Shelf.Strings.Count
import Derived.Shelf.LaysM
import Derived.Shelf.Strings.Shaped
import Derived.Shelf.Sort.Plain
import Derived.Shelf.Strings.Prefix
import Derived.Shelf.Strings.Split
import Derived.Shelf.Strings.Replace
import Derived.Shelf.Strings.Fold
import Derived.Shelf.Strings.SplitShaped
import Derived.Shelf.Unicode.Decode
import Derived.Shelf.Strings.Runes
import Derived.Shelf.Strings.IndexAny
import Derived.Shelf.Strings.AsciiSet
import Derived.Shelf.Strings.IndexAnyAll
import Derived.Shelf.Unicode.DecodeSlow
import Derived.Shelf.Unicode.DecodeAny
import Derived.Shelf.Unicode.CaseLookup
import Derived.Shelf.Unicode.CaseConvert
import Derived.Shelf.Strings.BuilderCap
import Derived.Shelf.Slices.Turned
import Derived.Shelf.Slices.Equal
import Derived.Ground.Names2Prog
import Derived.Shelf.Slices.Clone
import Derived.Shelf.Slices.CompactS
import Derived.Shelf.Slices.In.SortNone
import Derived.Shelf.Slices.Empties2
import Derived.Test.YtmimipgmhgalaaaGreatDoorProg
import Derived.Laws.Runes
import Derived.Lib.OthersKept
import Derived.Lib.MapLaws
import Derived.Lib.Hide
import Derived.WalkKit
import Derived.Deep.LoopGhost
import Derived.Deep.QuietTactic
import Derived.BigQuiet
import Derived.RegionTactic
import Derived.IntWalk
import Derived.Lib.LaidU8
import Derived.ScopeJumps
import Derived.WalkMore
import Derived.Lib.IndexMore
import Derived.Lib.SplitLaws
import Derived.Test.YtmimipgmhgalaaaGreatDoorKClientProofd
section
namespace Go.Proofs.YtmimipgmhgalaaaGreatDoor.PAll
open Go.RowKit Go.Proofs.YtmimipgmhgalaaaGreatDoorW.PrintWords Go.Proofs.YtmimipgmhgalaaaGreatDoorW.PrintLast Go.Proofs.YtmimipgmhgalaaaGreatDoorW.PrintMore
set_option linter.unusedVariables false
set_option linter.unusedSimpArgs false
def proofT.T1 : Bool × List (List Nat × List Nat) := (true, [([], []), ([0], [0]), ([1], [1]), ([], []), ([3], [3]), ([], []), ([], []), ([6], [6]), ([5, 7, 2], [5, 7]), ([2, 4, 8, 8], [2, 4, 8]), ([9], [9]), ([10], [10]), ([10], [10]), ([10], [10]), ([], []), ([14, 11, 9, 0, 1, 2, 3, 4, 5, 6, 7, 8, 9, 10, 11, 14], [11, 14]), ([12, 15, 0, 1, 2, 3, 4, 5, 6, 7, 8, 9, 10, 11, 12, 14, 15], [12]), ([13, 16, 0, 1, 2, 3, 4, 5, 6, 7, 8, 9, 10, 11, 12, 13, 14, 15, 16], [13])])
def proofT.B1 : List Nat := [0, 1, 3, 0, 8, 0, 0, 64, 231, 511, 1023, 2047, 2047, 2047, 0, 20479, 57343, 131071]
theorem proofT.tab1 : rtab .any (opsOf Tryz.f12 1) = proofT.T1 := by kernel_rfl
theorem proofT.bits1 : waitsOk proofT.T1.2 proofT.B1 = true := by kernel_rfl
def proofT.T6 : Bool × List (List Nat × List Nat) := (true, [([], []), ([0], [0]), ([1], [1]), ([], []), ([3], [3]), ([2, 4, 2], [2, 4]), ([5], [5]), ([6], [6]), ([6], [6]), ([], []), ([9, 7, 5, 0, 1, 2, 3, 4, 5, 6, 7, 9], [7, 9]), ([8, 10, 0, 1, 2, 3, 4, 5, 6, 7, 8, 9, 10], [8])])
def proofT.B6 : List Nat := [0, 1, 3, 0, 8, 31, 63, 127, 127, 0, 767, 2047]
theorem proofT.tab6 : rtab .any (opsOf Tryz.f12 6) = proofT.T6 := by kernel_rfl
theorem proofT.bits6 : waitsOk proofT.T6.2 proofT.B6 = true := by kernel_rfl
def GoodP (k : Nat) (l0 : List S40) (l2 : List S68) (a1 x0 x1 : ByteArray) (x2 : Int) (x3 : Bool) (x4 : ByteArray) (x5 : List ByteArray) (n : Int) : Prop :=
  ∃ (m : List S43) (fp : List S121) (iv : ByteArray) (ib : Bool) (ie : Int) (sv : ByteArray) (sb : Bool) (se : Int) (nm sh : ByteArray) (f : Int),
    wicketlaw11_all.f k l0 = some m ∧ wicketref11_Find.f k m x0 = some (x0, x1, x2, x3, x4, x5, true) ∧ wicketlaw11_same.f k x0 x1 x2 x3 x4 x5 x0 x1 x2 x3 x4 x5 = some true ∧ wicketlaw11_form.f k l2 = some fp ∧
    wicketref03_One.f k fp ⟨#[99, 108, 105, 101, 110, 116, 95, 105, 100]⟩ = some (iv, ib, ie) ∧ wicketref03_One.f k fp ⟨#[99, 108, 105, 101, 110, 116, 95, 115, 101, 99, 114, 101, 116]⟩ = some (sv, sb, se) ∧ wicketref11_Basic.f k a1 = some (nm, sh, f) ∧
    ((n = 0 ∧ x1 = ⟨#[]⟩ ∧ sb = false ∧ iv = x0 ∧ a1 = ⟨#[]⟩) ∨ (n = 2 ∧ x1.toList ≠ [] ∧ sb = true ∧ sv = x1 ∧ iv = x0 ∧ a1 = ⟨#[]⟩) ∨ (n = 1 ∧ x1.toList ≠ [] ∧ f = 0 ∧ nm = x0 ∧ sh = x1 ∧ sb = false ∧ (iv = ⟨#[]⟩ ∨ iv = x0)))
theorem lit_step {P : Program} {ops : Array Oper} {o : Oper} {a : Act} {W : World} {Kc : Act → World → Prop} {Q : Exit → Act → World → Prop} (hw : Region.wanted o (yielded ops a.tmps) = true)
    (hrun : (execOp a.eval o).run P W = .ok (.value (.slice (some ⟨W.heap.size, 0, none⟩) 0 0)) (W.alloc (.cells #[] 68)))
    (h : ∀ g, g = W.heap.size → ∀ w1, (g < w1.heap.size ∧ ∀ base, base ≤ g → Kd.R k68 68 w1 base (fun _ => True) (.slice (some ⟨g, 0, none⟩) 0 0) ([] : List S68)) → Below W.heap.size W w1 → Kc (a.put o.dst (.slice (some ⟨g, 0, none⟩) 0 0)) w1) :
    if Region.wanted o (yielded ops a.tmps) = true then Oper.wp P o a W Kc Q else Kc (a.put o.dst undef) W :=
  event_step hw hrun (h _ rfl _ ⟨by simp, fun base hb => r_empty hb⟩ (below_alloc (Below.refl _ _) _))
theorem far6_ {w : World} {g k : Nat} {o : Obj} (h : w.heap[k]? = some o) (hne : k ≠ g) (b0 b1 b2 b3 b4 b5 : Value) :
    ((((((w.setCell ⟨g, 0, none⟩ b0).setCell ⟨g, 1, none⟩ b1).setCell ⟨g, 2, none⟩ b2).setCell ⟨g, 3, none⟩ b3).setCell ⟨g, 4, none⟩ b4).setCell ⟨g, 5, none⟩ b5).heap[k]? = some o := (six_far hne b0 b1 b2 b3 b4 b5).trans h
set_option maxRecDepth 100000 in
set_option maxHeartbeats 8000000 in
theorem proof_walk (k : Nat) (A0 : Option Addr) (c0 : Nat) (l0 : List S40) (tn : Int) (ts a1 : ByteArray) (A4 : Option Addr) (c4 : Nat) (l2 : List S68) (w : World) (hr0 : Kd.C k40 w A0 l0.length l0) (hc0 : l0.length ≤ c0) (hr2 : Kd.C k68 w A4 l2.length l2) (hc2 : l2.length ≤ c4)
    (c : List S40) (h1 : wicketlaw11_copied.f k l0 = some c) (x0 x1 : ByteArray) (x2 : Int) (x3 : Bool) (x4 : ByteArray) (x5 : List ByteArray) (n er : Int) (hA : AuthAt w c a1 l2 ⟨x0, x1, x2, x3, x4, x5⟩ n er) (hl2 : l2.length * 32 ≤ 140737488351232)
    (hbad : er ≠ 0 → n = 0 ∧ x0 = ⟨#[]⟩ ∧ x5 = []) (hgood : er = 0 → GoodP k l0 l2 a1 x0 x1 x2 x3 x4 x5 n) :
    Calls Tryz.prog 12 #[.agg #[.slice A0 l0.length c0, .int .i64 tn, .string ts, .string a1, .slice A4 l2.length c4]] w fun e w' => e = .returned (.bool true) ∧ Below w.heap.size w w' := by
  have K1 := Lib.hid h1
  have KA := Lib.hid hA
  have KP := Lib.hid hl2
  have KB := Lib.hid hbad
  have KG := Lib.hid hgood
  have HR := Lib.hid hr0
  have HC := Lib.hid hc0
  have HQ := Lib.hid hr2
  have HD := Lib.hid hc2
  have HV := Lib.hid (fun V : World => wicketlaw11_live.calls true V rfl)
  clear h1 hA hl2 hbad hgood hr0 hc0 hr2 hc2
  go_enter Tryz.func12, Tryz.ntmps12
  go_upto_region 1 with ((with_reducible refine gate_dst (N := 1) rfl ?_); refine box_event ?hg (N := 1) ?hd (cs := #[.slice A0 l0.length c0, .int .i64 tn, .string ts, .string a1, .slice A4 l2.length c4]) (t := 74) ?hr ?_; (case hd => rfl); (case hg => rfl); (case hr => first | (go_simp; done) | (go_simp; rfl)); intro b hg w_b hbox hb; have BT := Lib.hid hbox; have GE := Lib.hid ((by rw [hg]; exact Nat.le_refl _) : w.heap.size ≤ b); have HB := Lib.hid hb; clear hbox hg hb)
  go_cut [3, 4, 5] (fun v3 v4 v5 wc => ∃ (z : Nat) (Ax : Option Addr) (cx : Nat), v3 = .pointer (some ⟨z, 0, none⟩) ∧ v4 = .int .i64 n ∧ v5 = .int .i64 er ∧ Hid (wc.heap[b]? = some (.cells #[.slice A0 l0.length c0, .int .i64 tn, .string ts, .string a1, .slice A4 l2.length c4] 74 (0, 0))) ∧ Hid (wc.heap[z]? = some (.cells #[.string x0, .string x1, .int .i64 x2, .bool x3, .string x4, .slice Ax x5.length cx] 40 (0, 0))) ∧ Hid (x5.length ≤ cx ∧ Kd.C Kd.string wc Ax x5.length x5) ∧ Hid (Below w.heap.size w wc))
  case first =>
    refine start_ (n := 18) (S := fun w' => w'.cell? ⟨b, 0, none⟩ = some (.slice A0 l0.length c0) ∧ w'.cell? ⟨b, 3, none⟩ = some (.string a1) ∧ w'.cell? ⟨b, 4, none⟩ = some (.slice A4 l2.length c4)) (ds := []) #[false, false, false, false, false, false, false, false, false, false, false, false, false, false, false, false, false, false] (by kernel_rfl) rfl rfl ⟨(blk_cell BT.out 0).trans rfl, (blk_cell BT.out 3).trans rfl, (blk_cell BT.out 4).trans rfl⟩ (fun hHeld => ?_); refine with_tabW proofT.tab1 proofT.bits1 (fun HT_ HW_ => ?_)
    have BT' := Lib.hid (blk_drew BT.out)
    have HB' := Lib.hid (below_drew1 HB.out)
    clear BT HB
    have BT := BT'
    have HB := HB'
    clear BT' HB'
    generalize World.drew _ = w5 at BT HB hHeld ⊢
    refine pure_ (i := 0) (N := some 18) (v := ?_) (a' := ?_) #[true, false, false, false, false, false, false, false, false, false, false, false, false, false, false, false, false, false] rfl rfl (any_of HT_.out (by kernel_rfl)) (fun _ _ _ h => h) (Or.inl ⟨by rfl, ?_⟩) ?_ ?_
    rotate_left
    · intro w'
      go_simp
      with_reducible rfl
    rotate_left
    · simp only [Act.put, List.setIfInBounds_toArray, List.set_cons_zero, List.set_cons_succ, i64_w, i32_w]
      rfl
    refine pure_ (i := 3) (N := some 21) (v := ?_) (a' := ?_) #[true, false, false, true, false, false, false, false, false, false, false, false, false, false, false, false, false, false] rfl rfl (any_of HT_.out (by kernel_rfl)) (fun _ _ _ h => h) (Or.inl ⟨by rfl, ?_⟩) ?_ ?_
    rotate_left
    · intro w'
      go_simp
      with_reducible rfl
    rotate_left
    · simp only [Act.put, List.setIfInBounds_toArray, List.set_cons_zero, List.set_cons_succ, i64_w, i32_w]
      rfl
    refine pure_ (i := 6) (N := some 24) (v := ?_) (a' := ?_) #[true, false, false, true, false, false, true, false, false, false, false, false, false, false, false, false, false, false] rfl rfl (any_of HT_.out (by kernel_rfl)) (fun _ _ _ h => h) (Or.inl ⟨by rfl, ?_⟩) ?_ ?_
    rotate_left
    · intro w'
      go_simp
      with_reducible rfl
    rotate_left
    · simp only [Act.put, List.setIfInBounds_toArray, List.set_cons_zero, List.set_cons_succ, i64_w, i32_w]
      rfl
    refine take_ (i := 1) (N := some 19) (v := ?_) (a' := ?_) #[true, true, false, true, false, false, true, false, false, false, false, false, false, false, false, false, false, false] rfl rfl (take_ofW HT_.out HW_.out (by kernel_rfl)) (fun _ _ _ h => h) (Or.inl ⟨by rfl, ?_⟩) hHeld ?_ ?_
    rotate_left
    · rintro w' ⟨s0, s1, s2⟩
      go_simp
      with_reducible rfl
    rotate_left
    · simp only [Act.put, List.setIfInBounds_toArray, List.set_cons_zero, List.set_cons_succ, i64_w, i32_w]
      rfl
    refine take_ (i := 4) (N := some 22) (v := ?_) (a' := ?_) #[true, true, false, true, true, false, true, false, false, false, false, false, false, false, false, false, false, false] rfl rfl (take_ofW HT_.out HW_.out (by kernel_rfl)) (fun _ _ _ h => h) (Or.inl ⟨by rfl, ?_⟩) hHeld ?_ ?_
    rotate_left
    · rintro w' ⟨s0, s1, s2⟩
      go_simp
      with_reducible rfl
    rotate_left
    · simp only [Act.put, List.setIfInBounds_toArray, List.set_cons_zero, List.set_cons_succ, i64_w, i32_w]
      rfl
    refine take_ (i := 7) (N := some 25) (v := ?_) (a' := ?_) #[true, true, false, true, true, false, true, true, false, false, false, false, false, false, false, false, false, false] rfl rfl (take_ofW HT_.out HW_.out (by kernel_rfl)) (fun _ _ _ h => h) (Or.inl ⟨by rfl, ?_⟩) hHeld ?_ ?_
    rotate_left
    · rintro w' ⟨s0, s1, s2⟩
      go_simp
      with_reducible rfl
    rotate_left
    · simp only [Act.put, List.setIfInBounds_toArray, List.set_cons_zero, List.set_cons_succ, i64_w, i32_w]
      rfl
    refine three_ (i := 2) (j := 5) (k := 14) (Ni := some 20) (Nj := some 23) (Nk := some 3) #[true, true, true, true, true, false, true, true, false, false, false, false, false, false, false, false, false, false] #[true, true, false, true, true, true, true, true, false, false, false, false, false, false, false, false, false, false] #[true, true, false, true, true, false, true, true, false, false, false, false, false, false, true, false, false, false] rfl rfl rfl rfl rfl rfl (three_of HT_.out (by kernel_rfl)) (by decide) (by decide) (by decide) (fun K hK => ?_) (fun K hK => ?_) (fun K hK => ?_)
    · refine goes_ Tryz.func15 (by kernel_rfl) rfl #[.slice A0 l0.length c0] (by rfl) rfl rfl (by first | rfl | ((try simp only [List.map_toArray, List.map_cons, List.map_nil]); first | done | rfl | (simp only [List.length_drop, List.length_take]; rfl))) ?_
      with_reducible refine (wicketlaw11_copied.calls k _ _ l0 c _ (Kd.C_below HR.out HB.out) HC.out K1.out).mono ?_
      rintro e wq ⟨vc, rfl, hS, hb⟩
      refine ⟨_, rfl, ?_⟩
      obtain ⟨Ac, cc, rfl⟩ := Kd.S_slice hS
      have HS' := Lib.hid (Kd.S_lower hS HB.out.size)
      have BT' := Lib.hid (blk_below BT.out hb)
      have HB' := Lib.hid (below_step HB.out hb)
      clear BT HB
      have BT := BT'
      have HB := HB'
      clear BT' HB'
      have HS := HS'
      clear HS' hS hb
      refine hK.out _ _ ⟨(blk_cell BT.out 0).trans rfl, (blk_cell BT.out 3).trans rfl, (blk_cell BT.out 4).trans rfl⟩ (fun hHeld => ?_)
      clear hK K
      refine norm_ (a' := ?_) ?_ ?_
      rotate_left
      · show Act.put _ (some 20) _ = _
        simp only [Act.put, List.setIfInBounds_toArray, List.set_cons_zero, List.set_cons_succ, i64_w, i32_w]
        rfl
      refine two_ (i := 5) (j := 14) (Ni := some 23) (Nj := some 3) #[true, true, true, true, true, true, true, true, false, false, false, false, false, false, false, false, false, false] #[true, true, true, true, true, false, true, true, false, false, false, false, false, false, true, false, false, false] rfl rfl rfl rfl (two_of HT_.out (by kernel_rfl)) (by decide) (by decide) (fun K hK => ?_) (fun K hK => ?_)
      · refine lit_step rfl ?hr ?_; (case hr => first | (go_simp; done) | (go_simp; rfl))
        intro g hg wq hE hb
        have GB := Lib.hid (show w.heap.size ≤ g by rw [hg]; exact HB.out.size)
        have NB := Lib.hid (show b ≠ g by rw [hg]; have := blk_lt BT.out; omega)
        have GL := Lib.hid (show g < wq.heap.size from hE.1)
        have HE := Lib.hid (hE.2 w.heap.size GB.out)
        have BT' := Lib.hid (blk_below BT.out hb)
        have HB' := Lib.hid (below_step HB.out hb)
        have HS' := Lib.hid (Kd.S_below (Kd.S_mono (Kd.S_bound HS.out) (ok' := fun q => q ≠ g) (fun q hq => by have := hq.2.2.1; omega)) hb)
        clear BT HB HS
        have BT := BT'
        have HB := HB'
        have HS := HS'
        clear BT' HB' HS'
        clear hg hE hb
        refine hK.out _ _ ⟨(blk_cell BT.out 0).trans rfl, (blk_cell BT.out 3).trans rfl, (blk_cell BT.out 4).trans rfl⟩ (fun hHeld => ?_)
        clear hK K
        refine norm_ (a' := ?_) ?_ ?_
        rotate_left
        · show Act.put _ (some 23) _ = _
          simp only [Act.put, List.setIfInBounds_toArray, List.set_cons_zero, List.set_cons_succ, i64_w, i32_w]
          rfl
        refine two_ (i := 8) (j := 14) (Ni := some 26) (Nj := some 3) #[true, true, true, true, true, true, true, true, true, false, false, false, false, false, false, false, false, false] #[true, true, true, true, true, true, true, true, false, false, false, false, false, false, true, false, false, false] rfl rfl rfl rfl (two_of HT_.out (by kernel_rfl)) (by decide) (by decide) (fun K hK => ?_) (fun K hK => ?_)
        · refine Kd.R_append_rows_step k68 (w0 := w) w.heap.size rfl (.tmp 23) (.tmp 25) 60 68 (.agg #[(.string ⟨#[]⟩), (.string ⟨#[]⟩)]) 32 rfl Tryz.underlying60 info68 rfl (by decide) (by omega) (.slice (some ⟨g, 0, none⟩) 0 0) [] l2 A4 l2.length c4 (fun _ => True) (fun _ => False) rfl rfl HE.out (Kd.C_below HQ.out HB.out) (fun _ _ h => h) (fun _ h => h.elim) (fun _ _ => trivial) HB.out HB.out.size (by have := KP.out; simp; omega) ?_
          intro vp wq ho hb hg hat
          clear hat
          rw [List.nil_append] at ho
          obtain ⟨Ap, cp, rfl⟩ := Kd.R_slice ho
          have BT' := Lib.hid (blk_grown BT.out hg (fun e => NB.out (Option.some.inj e)))
          have HS' := Lib.hid (Kd.S_step HS.out (fun q hq hlt => hg.block q hlt (fun e => hq (Option.some.inj e))))
          have HB' := Lib.hid hb
          clear BT HS HB
          have BT := BT'
          have HS := HS'
          have HB := HB'
          clear BT' HS' HB'
          have HP := Lib.hid ho
          clear HE GL ho hb hg
          refine hK.out _ _ ⟨(blk_cell BT.out 0).trans rfl, (blk_cell BT.out 3).trans rfl, (blk_cell BT.out 4).trans rfl⟩ (fun hHeld => ?_)
          clear hK K
          refine norm_ (a' := ?_) ?_ ?_
          rotate_left
          · show Act.put _ (some 26) _ = _
            simp only [Act.put, List.setIfInBounds_toArray, List.set_cons_zero, List.set_cons_succ, i64_w, i32_w]
            rfl
          refine two_ (i := 9) (j := 14) (Ni := some 27) (Nj := some 3) #[true, true, true, true, true, true, true, true, true, true, false, false, false, false, false, false, false, false] #[true, true, true, true, true, true, true, true, true, false, false, false, false, false, true, false, false, false] rfl rfl rfl rfl (two_of HT_.out (by kernel_rfl)) (by decide) (by decide) (fun K hK => ?_) (fun K hK => ?_)
          · refine goes_ Tryz.func34 (by kernel_rfl) rfl #[.slice Ac c.length cc, .string a1, .slice Ap l2.length cp] (by rfl) rfl rfl (by first | rfl | ((try simp only [List.map_toArray, List.map_cons, List.map_nil]); first | done | rfl | (simp only [List.length_drop, List.length_take]; rfl))) ?_
            refine (KA.out _ Ac Ap cc cp HB.out (Kd.S_reads' HS.out).2.2 (Kd.S_reads' HS.out).2.1 (Kd.R_reads' HP.out).2.2 (Kd.R_reads' HP.out).2.1).mono ?_
            rintro e wq ⟨vx, rfl, hX, hb⟩
            refine ⟨_, rfl, ?_⟩
            obtain ⟨Ax, cx, rfl⟩ := Kd.R_slice hX
            have HX := Lib.hid (Kd.R_lower hX HB.out.size)
            have BT' := Lib.hid (blk_below BT.out hb)
            have HB' := Lib.hid (below_step HB.out hb)
            clear BT HB
            have BT := BT'
            have HB := HB'
            clear BT' HB'
            clear hX hb HS HP
            refine hK.out _ _ ⟨(blk_cell BT.out 0).trans rfl, (blk_cell BT.out 3).trans rfl, (blk_cell BT.out 4).trans rfl⟩ (fun hHeld => ?_)
            clear hK K
            refine norm_ (a' := ?_) ?_ ?_
            rotate_left
            · show Act.put _ (some 27) _ = _
              simp only [Act.put, List.setIfInBounds_toArray, List.set_cons_zero, List.set_cons_succ, i64_w, i32_w]
              rfl
            refine pure_ (i := 10) (N := some 17) (v := ?_) (a' := ?_) #[true, true, true, true, true, true, true, true, true, true, true, false, false, false, false, false, false, false] rfl rfl (any_of HT_.out (by kernel_rfl)) (fun _ _ _ h => h) (Or.inl ⟨by rfl, ?_⟩) ?_ ?_
            rotate_left
            · intro w'
              go_simp
              with_reducible rfl
            rotate_left
            · simp only [Act.put, List.setIfInBounds_toArray, List.set_cons_zero, List.set_cons_succ, i64_w, i32_w]
              rfl
            refine pure_ (i := 11) (N := some 28) (v := ?_) (a' := ?_) #[true, true, true, true, true, true, true, true, true, true, true, true, false, false, false, false, false, false] rfl rfl (any_of HT_.out (by kernel_rfl)) (fun _ _ _ h => h) (Or.inl ⟨by rfl, ?_⟩) ?_ ?_
            rotate_left
            · intro w'
              go_simp
              with_reducible rfl
            rotate_left
            · simp only [Act.put, List.setIfInBounds_toArray, List.set_cons_zero, List.set_cons_succ, i64_w, i32_w]
              rfl
            refine pure_ (i := 12) (N := some 29) (v := ?_) (a' := ?_) #[true, true, true, true, true, true, true, true, true, true, true, true, true, false, false, false, false, false] rfl rfl (any_of HT_.out (by kernel_rfl)) (fun _ _ _ h => h) (Or.inl ⟨by rfl, ?_⟩) ?_ ?_
            rotate_left
            · intro w'
              go_simp
              with_reducible rfl
            rotate_left
            · simp only [Act.put, List.setIfInBounds_toArray, List.set_cons_zero, List.set_cons_succ, i64_w, i32_w]
              rfl
            refine pure_ (i := 13) (N := some 30) (v := ?_) (a' := ?_) #[true, true, true, true, true, true, true, true, true, true, true, true, true, true, false, false, false, false] rfl rfl (any_of HT_.out (by kernel_rfl)) (fun _ _ _ h => h) (Or.inl ⟨by rfl, ?_⟩) ?_ ?_
            rotate_left
            · intro w'
              go_simp
              with_reducible rfl
            rotate_left
            · simp only [Act.put, List.setIfInBounds_toArray, List.set_cons_zero, List.set_cons_succ, i64_w, i32_w]
              rfl
            refine one_ (i := 14) (N := some 3) #[true, true, true, true, true, true, true, true, true, true, true, true, true, true, true, false, false, false] rfl rfl (one_of HT_.out (by kernel_rfl)) (by decide) (fun K hK => ?_)
            refine box_step ?hg (N := 3) ?hd (cs := #[.string ⟨#[]⟩, .string ⟨#[]⟩, .int .i64 0, .bool false, .string ⟨#[]⟩, .slice none 0 0]) (t := 40) ?hr ?_; (case hd => rfl); (case hg => rfl); (case hr => first | (go_simp; done) | (go_simp; rfl))
            intro z hz wq hbox hb
            have ZB := Lib.hid (show w.heap.size ≤ z by rw [hz]; exact HB.out.size)
            have NT := Lib.hid (show b ≠ z by rw [hz]; have := blk_lt BT.out; omega)
            have BT' := Lib.hid (blk_below BT.out hb)
            have HB' := Lib.hid (below_step HB.out hb)
            have HX' := Lib.hid (Kd.R_below (Kd.R_mono (Kd.R_bound HX.out) (ok' := fun q => q ≠ z) (fun q hq => by have := hq.2.2.1; omega)) hb)
            clear BT HB HX
            have BT := BT'
            have HB := HB'
            have HX := HX'
            clear BT' HB' HX'
            have BZ := Lib.hid hbox
            clear hz hbox hb
            refine hK.out _ _ ⟨(blk_cell BT.out 0).trans rfl, (blk_cell BT.out 3).trans rfl, (blk_cell BT.out 4).trans rfl⟩ (fun hHeld => ?_)
            clear hK K
            refine norm_ (a' := ?_) ?_ ?_
            rotate_left
            · show Act.put _ (some 3) _ = _
              simp only [Act.put, List.setIfInBounds_toArray, List.set_cons_zero, List.set_cons_succ, i64_w, i32_w]
              rfl
            refine one_ (i := 15) (N := none) #[true, true, true, true, true, true, true, true, true, true, true, true, true, true, true, true, false, false] rfl rfl (one_of HT_.out (by kernel_rfl)) (by decide) (fun K hK => ?_)
            obtain ⟨c60, c61, c62, c63, c64, c65, f60, f61, f62, f63, f64, f65⟩ := cz6_ BZ.out
            refine skip_ (w1 := ?_) rfl rfl ?_ ?_
            rotate_left
            · go_simp
              rfl
            have BT' := Lib.hid (far6_ BT.out NT.out (.string x0) (.string x1) (.int .i64 x2) (.bool x3) (.string x4) (.slice Ax x5.length cx))
            have BZ' := Lib.hid (put6_ BZ.out (.string x0) (.string x1) (.int .i64 x2) (.bool x3) (.string x4) (.slice Ax x5.length cx))
            have HX' := Lib.hid (R_far6 (b0 := .string x0) (b1 := .string x1) (b2 := .int .i64 x2) (b3 := .bool x3) (b4 := .string x4) (b5 := .slice Ax x5.length cx) HX.out (fun _ h => h))
            have HB' := Lib.hid (below_six HB.out ZB.out (.string x0) (.string x1) (.int .i64 x2) (.bool x3) (.string x4) (.slice Ax x5.length cx))
            clear c60 c61 c62 c63 c64 c65 f60 f61 f62 f63 f64 f65
            clear BT BZ HX HB
            have BT := BT'
            have BZ := BZ'
            have HX := HX'
            have HB := HB'
            clear BT' BZ' HX' HB'
            refine hK.out _ _ ⟨(blk_cell BT.out 0).trans rfl, (blk_cell BT.out 3).trans rfl, (blk_cell BT.out 4).trans rfl⟩ (fun hHeld => ?_)
            clear hK K
            refine pure_ (i := 16) (N := some 4) (v := ?_) (a' := ?_) #[true, true, true, true, true, true, true, true, true, true, true, true, true, true, true, true, true, false] rfl rfl (any_of HT_.out (by kernel_rfl)) (fun _ _ _ h => h) (Or.inl ⟨by rfl, ?_⟩) ?_ ?_
            rotate_left
            · intro w'
              go_simp
              with_reducible rfl
            rotate_left
            · simp only [Act.put, List.setIfInBounds_toArray, List.set_cons_zero, List.set_cons_succ, i64_w, i32_w]
              rfl
            refine pure_ (i := 17) (N := some 5) (v := ?_) (a' := ?_) #[true, true, true, true, true, true, true, true, true, true, true, true, true, true, true, true, true, true] rfl rfl (any_of HT_.out (by kernel_rfl)) (fun _ _ _ h => h) (Or.inl ⟨by rfl, ?_⟩) ?_ ?_
            rotate_left
            · intro w'
              go_simp
              with_reducible rfl
            rotate_left
            · simp only [Act.put, List.setIfInBounds_toArray, List.set_cons_zero, List.set_cons_succ, i64_w, i32_w]
              rfl
            refine done_ (done_of HT_.out (by kernel_rfl)) ?_
            try go_wp2_with (fail)
            go_meet
            case rel => exact ⟨z, Ax, cx, rfl, rfl, rfl, BT, BZ, Lib.hid (Kd.R_reads' HX.out).2, HB⟩
          · refine box_step ?hg (N := 3) ?hd (cs := #[.string ⟨#[]⟩, .string ⟨#[]⟩, .int .i64 0, .bool false, .string ⟨#[]⟩, .slice none 0 0]) (t := 40) ?hr ?_; (case hd => rfl); (case hg => rfl); (case hr => first | (go_simp; done) | (go_simp; rfl))
            intro z hz wq hbox hb
            have ZB := Lib.hid (show w.heap.size ≤ z by rw [hz]; exact HB.out.size)
            have NT := Lib.hid (show b ≠ z by rw [hz]; have := blk_lt BT.out; omega)
            have BT' := Lib.hid (blk_below BT.out hb)
            have HB' := Lib.hid (below_step HB.out hb)
            have HS' := Lib.hid (Kd.S_below HS.out hb)
            have HP' := Lib.hid (Kd.R_below HP.out hb)
            clear BT HB HS HP
            have BT := BT'
            have HB := HB'
            have HS := HS'
            have HP := HP'
            clear BT' HB' HS' HP'
            have BZ := Lib.hid hbox
            clear hz hbox hb
            refine hK.out _ _ ⟨(blk_cell BT.out 0).trans rfl, (blk_cell BT.out 3).trans rfl, (blk_cell BT.out 4).trans rfl⟩ (fun hHeld => ?_)
            clear hK K
            refine norm_ (a' := ?_) ?_ ?_
            rotate_left
            · show Act.put _ (some 3) _ = _
              simp only [Act.put, List.setIfInBounds_toArray, List.set_cons_zero, List.set_cons_succ, i64_w, i32_w]
              rfl
            refine one_ (i := 9) (N := some 27) #[true, true, true, true, true, true, true, true, true, true, false, false, false, false, true, false, false, false] rfl rfl (one_of HT_.out (by kernel_rfl)) (by decide) (fun K hK => ?_)
            refine goes_ Tryz.func34 (by kernel_rfl) rfl #[.slice Ac c.length cc, .string a1, .slice Ap l2.length cp] (by rfl) rfl rfl (by first | rfl | ((try simp only [List.map_toArray, List.map_cons, List.map_nil]); first | done | rfl | (simp only [List.length_drop, List.length_take]; rfl))) ?_
            refine (KA.out _ Ac Ap cc cp HB.out (Kd.S_reads' HS.out).2.2 (Kd.S_reads' HS.out).2.1 (Kd.R_reads' HP.out).2.2 (Kd.R_reads' HP.out).2.1).mono ?_
            rintro e wq ⟨vx, rfl, hX, hb⟩
            refine ⟨_, rfl, ?_⟩
            obtain ⟨Ax, cx, rfl⟩ := Kd.R_slice hX
            have HX := Lib.hid (Kd.R_lower (Kd.R_mono (Kd.R_bound hX) (ok' := fun q => q ≠ z) (fun q hq => by have := hq.2.1; have := blk_lt BZ.out; omega)) HB.out.size)
            have BT' := Lib.hid (blk_below BT.out hb)
            have HB' := Lib.hid (below_step HB.out hb)
            have BZ' := Lib.hid (blk_below BZ.out hb)
            clear BT HB BZ
            have BT := BT'
            have HB := HB'
            have BZ := BZ'
            clear BT' HB' BZ'
            clear hX hb HS HP
            refine hK.out _ _ ⟨(blk_cell BT.out 0).trans rfl, (blk_cell BT.out 3).trans rfl, (blk_cell BT.out 4).trans rfl⟩ (fun hHeld => ?_)
            clear hK K
            refine norm_ (a' := ?_) ?_ ?_
            rotate_left
            · show Act.put _ (some 27) _ = _
              simp only [Act.put, List.setIfInBounds_toArray, List.set_cons_zero, List.set_cons_succ, i64_w, i32_w]
              rfl
            refine pure_ (i := 10) (N := some 17) (v := ?_) (a' := ?_) #[true, true, true, true, true, true, true, true, true, true, true, false, false, false, true, false, false, false] rfl rfl (any_of HT_.out (by kernel_rfl)) (fun _ _ _ h => h) (Or.inl ⟨by rfl, ?_⟩) ?_ ?_
            rotate_left
            · intro w'
              go_simp
              with_reducible rfl
            rotate_left
            · simp only [Act.put, List.setIfInBounds_toArray, List.set_cons_zero, List.set_cons_succ, i64_w, i32_w]
              rfl
            refine pure_ (i := 11) (N := some 28) (v := ?_) (a' := ?_) #[true, true, true, true, true, true, true, true, true, true, true, true, false, false, true, false, false, false] rfl rfl (any_of HT_.out (by kernel_rfl)) (fun _ _ _ h => h) (Or.inl ⟨by rfl, ?_⟩) ?_ ?_
            rotate_left
            · intro w'
              go_simp
              with_reducible rfl
            rotate_left
            · simp only [Act.put, List.setIfInBounds_toArray, List.set_cons_zero, List.set_cons_succ, i64_w, i32_w]
              rfl
            refine pure_ (i := 12) (N := some 29) (v := ?_) (a' := ?_) #[true, true, true, true, true, true, true, true, true, true, true, true, true, false, true, false, false, false] rfl rfl (any_of HT_.out (by kernel_rfl)) (fun _ _ _ h => h) (Or.inl ⟨by rfl, ?_⟩) ?_ ?_
            rotate_left
            · intro w'
              go_simp
              with_reducible rfl
            rotate_left
            · simp only [Act.put, List.setIfInBounds_toArray, List.set_cons_zero, List.set_cons_succ, i64_w, i32_w]
              rfl
            refine pure_ (i := 13) (N := some 30) (v := ?_) (a' := ?_) #[true, true, true, true, true, true, true, true, true, true, true, true, true, true, true, false, false, false] rfl rfl (any_of HT_.out (by kernel_rfl)) (fun _ _ _ h => h) (Or.inl ⟨by rfl, ?_⟩) ?_ ?_
            rotate_left
            · intro w'
              go_simp
              with_reducible rfl
            rotate_left
            · simp only [Act.put, List.setIfInBounds_toArray, List.set_cons_zero, List.set_cons_succ, i64_w, i32_w]
              rfl
            refine one_ (i := 15) (N := none) #[true, true, true, true, true, true, true, true, true, true, true, true, true, true, true, true, false, false] rfl rfl (one_of HT_.out (by kernel_rfl)) (by decide) (fun K hK => ?_)
            obtain ⟨c60, c61, c62, c63, c64, c65, f60, f61, f62, f63, f64, f65⟩ := cz6_ BZ.out
            refine skip_ (w1 := ?_) rfl rfl ?_ ?_
            rotate_left
            · go_simp
              rfl
            have BT' := Lib.hid (far6_ BT.out NT.out (.string x0) (.string x1) (.int .i64 x2) (.bool x3) (.string x4) (.slice Ax x5.length cx))
            have BZ' := Lib.hid (put6_ BZ.out (.string x0) (.string x1) (.int .i64 x2) (.bool x3) (.string x4) (.slice Ax x5.length cx))
            have HX' := Lib.hid (R_far6 (b0 := .string x0) (b1 := .string x1) (b2 := .int .i64 x2) (b3 := .bool x3) (b4 := .string x4) (b5 := .slice Ax x5.length cx) HX.out (fun _ h => h))
            have HB' := Lib.hid (below_six HB.out ZB.out (.string x0) (.string x1) (.int .i64 x2) (.bool x3) (.string x4) (.slice Ax x5.length cx))
            clear c60 c61 c62 c63 c64 c65 f60 f61 f62 f63 f64 f65
            clear BT BZ HX HB
            have BT := BT'
            have BZ := BZ'
            have HX := HX'
            have HB := HB'
            clear BT' BZ' HX' HB'
            refine hK.out _ _ ⟨(blk_cell BT.out 0).trans rfl, (blk_cell BT.out 3).trans rfl, (blk_cell BT.out 4).trans rfl⟩ (fun hHeld => ?_)
            clear hK K
            refine pure_ (i := 16) (N := some 4) (v := ?_) (a' := ?_) #[true, true, true, true, true, true, true, true, true, true, true, true, true, true, true, true, true, false] rfl rfl (any_of HT_.out (by kernel_rfl)) (fun _ _ _ h => h) (Or.inl ⟨by rfl, ?_⟩) ?_ ?_
            rotate_left
            · intro w'
              go_simp
              with_reducible rfl
            rotate_left
            · simp only [Act.put, List.setIfInBounds_toArray, List.set_cons_zero, List.set_cons_succ, i64_w, i32_w]
              rfl
            refine pure_ (i := 17) (N := some 5) (v := ?_) (a' := ?_) #[true, true, true, true, true, true, true, true, true, true, true, true, true, true, true, true, true, true] rfl rfl (any_of HT_.out (by kernel_rfl)) (fun _ _ _ h => h) (Or.inl ⟨by rfl, ?_⟩) ?_ ?_
            rotate_left
            · intro w'
              go_simp
              with_reducible rfl
            rotate_left
            · simp only [Act.put, List.setIfInBounds_toArray, List.set_cons_zero, List.set_cons_succ, i64_w, i32_w]
              rfl
            refine done_ (done_of HT_.out (by kernel_rfl)) ?_
            try go_wp2_with (fail)
            go_meet
            case rel => exact ⟨z, Ax, cx, rfl, rfl, rfl, BT, BZ, Lib.hid (Kd.R_reads' HX.out).2, HB⟩
        · refine box_step ?hg (N := 3) ?hd (cs := #[.string ⟨#[]⟩, .string ⟨#[]⟩, .int .i64 0, .bool false, .string ⟨#[]⟩, .slice none 0 0]) (t := 40) ?hr ?_; (case hd => rfl); (case hg => rfl); (case hr => first | (go_simp; done) | (go_simp; rfl))
          intro z hz wq hbox hb
          have ZB := Lib.hid (show w.heap.size ≤ z by rw [hz]; exact HB.out.size)
          have NT := Lib.hid (show b ≠ z by rw [hz]; have := blk_lt BT.out; omega)
          have NZ := Lib.hid (show z ≠ g by rw [hz]; have := GL.out; omega)
          have BT' := Lib.hid (blk_below BT.out hb)
          have HB' := Lib.hid (below_step HB.out hb)
          have HS' := Lib.hid (Kd.S_below HS.out hb)
          have HE' := Lib.hid (Kd.R_below HE.out hb)
          have GL' := Lib.hid (Nat.lt_of_lt_of_le GL.out hb.size)
          clear BT HB HS HE GL
          have BT := BT'
          have HB := HB'
          have HS := HS'
          have HE := HE'
          have GL := GL'
          clear BT' HB' HS' HE' GL'
          have BZ := Lib.hid hbox
          clear hz hbox hb
          refine hK.out _ _ ⟨(blk_cell BT.out 0).trans rfl, (blk_cell BT.out 3).trans rfl, (blk_cell BT.out 4).trans rfl⟩ (fun hHeld => ?_)
          clear hK K
          refine norm_ (a' := ?_) ?_ ?_
          rotate_left
          · show Act.put _ (some 3) _ = _
            simp only [Act.put, List.setIfInBounds_toArray, List.set_cons_zero, List.set_cons_succ, i64_w, i32_w]
            rfl
          refine one_ (i := 8) (N := some 26) #[true, true, true, true, true, true, true, true, true, false, false, false, false, false, true, false, false, false] rfl rfl (one_of HT_.out (by kernel_rfl)) (by decide) (fun K hK => ?_)
          refine Kd.R_append_rows_step k68 (w0 := w) w.heap.size rfl (.tmp 23) (.tmp 25) 60 68 (.agg #[(.string ⟨#[]⟩), (.string ⟨#[]⟩)]) 32 rfl Tryz.underlying60 info68 rfl (by decide) (by omega) (.slice (some ⟨g, 0, none⟩) 0 0) [] l2 A4 l2.length c4 (fun _ => True) (fun _ => False) rfl rfl HE.out (Kd.C_below HQ.out HB.out) (fun _ _ h => h) (fun _ h => h.elim) (fun _ _ => trivial) HB.out HB.out.size (by have := KP.out; simp; omega) ?_
          intro vp wq ho hb hg hat
          clear hat
          rw [List.nil_append] at ho
          obtain ⟨Ap, cp, rfl⟩ := Kd.R_slice ho
          have BT' := Lib.hid (blk_grown BT.out hg (fun e => NB.out (Option.some.inj e)))
          have HS' := Lib.hid (Kd.S_step HS.out (fun q hq hlt => hg.block q hlt (fun e => hq (Option.some.inj e))))
          have HB' := Lib.hid hb
          have BZ' := Lib.hid (blk_grown BZ.out hg (fun e => NZ.out (Option.some.inj e)))
          clear BT HS HB BZ
          have BT := BT'
          have HS := HS'
          have HB := HB'
          have BZ := BZ'
          clear BT' HS' HB' BZ'
          have HP := Lib.hid ho
          clear HE GL ho hb hg
          refine hK.out _ _ ⟨(blk_cell BT.out 0).trans rfl, (blk_cell BT.out 3).trans rfl, (blk_cell BT.out 4).trans rfl⟩ (fun hHeld => ?_)
          clear hK K
          refine norm_ (a' := ?_) ?_ ?_
          rotate_left
          · show Act.put _ (some 26) _ = _
            simp only [Act.put, List.setIfInBounds_toArray, List.set_cons_zero, List.set_cons_succ, i64_w, i32_w]
            rfl
          refine one_ (i := 9) (N := some 27) #[true, true, true, true, true, true, true, true, true, true, false, false, false, false, true, false, false, false] rfl rfl (one_of HT_.out (by kernel_rfl)) (by decide) (fun K hK => ?_)
          refine goes_ Tryz.func34 (by kernel_rfl) rfl #[.slice Ac c.length cc, .string a1, .slice Ap l2.length cp] (by rfl) rfl rfl (by first | rfl | ((try simp only [List.map_toArray, List.map_cons, List.map_nil]); first | done | rfl | (simp only [List.length_drop, List.length_take]; rfl))) ?_
          refine (KA.out _ Ac Ap cc cp HB.out (Kd.S_reads' HS.out).2.2 (Kd.S_reads' HS.out).2.1 (Kd.R_reads' HP.out).2.2 (Kd.R_reads' HP.out).2.1).mono ?_
          rintro e wq ⟨vx, rfl, hX, hb⟩
          refine ⟨_, rfl, ?_⟩
          obtain ⟨Ax, cx, rfl⟩ := Kd.R_slice hX
          have HX := Lib.hid (Kd.R_lower (Kd.R_mono (Kd.R_bound hX) (ok' := fun q => q ≠ z) (fun q hq => by have := hq.2.1; have := blk_lt BZ.out; omega)) HB.out.size)
          have BT' := Lib.hid (blk_below BT.out hb)
          have HB' := Lib.hid (below_step HB.out hb)
          have BZ' := Lib.hid (blk_below BZ.out hb)
          clear BT HB BZ
          have BT := BT'
          have HB := HB'
          have BZ := BZ'
          clear BT' HB' BZ'
          clear hX hb HS HP
          refine hK.out _ _ ⟨(blk_cell BT.out 0).trans rfl, (blk_cell BT.out 3).trans rfl, (blk_cell BT.out 4).trans rfl⟩ (fun hHeld => ?_)
          clear hK K
          refine norm_ (a' := ?_) ?_ ?_
          rotate_left
          · show Act.put _ (some 27) _ = _
            simp only [Act.put, List.setIfInBounds_toArray, List.set_cons_zero, List.set_cons_succ, i64_w, i32_w]
            rfl
          refine pure_ (i := 10) (N := some 17) (v := ?_) (a' := ?_) #[true, true, true, true, true, true, true, true, true, true, true, false, false, false, true, false, false, false] rfl rfl (any_of HT_.out (by kernel_rfl)) (fun _ _ _ h => h) (Or.inl ⟨by rfl, ?_⟩) ?_ ?_
          rotate_left
          · intro w'
            go_simp
            with_reducible rfl
          rotate_left
          · simp only [Act.put, List.setIfInBounds_toArray, List.set_cons_zero, List.set_cons_succ, i64_w, i32_w]
            rfl
          refine pure_ (i := 11) (N := some 28) (v := ?_) (a' := ?_) #[true, true, true, true, true, true, true, true, true, true, true, true, false, false, true, false, false, false] rfl rfl (any_of HT_.out (by kernel_rfl)) (fun _ _ _ h => h) (Or.inl ⟨by rfl, ?_⟩) ?_ ?_
          rotate_left
          · intro w'
            go_simp
            with_reducible rfl
          rotate_left
          · simp only [Act.put, List.setIfInBounds_toArray, List.set_cons_zero, List.set_cons_succ, i64_w, i32_w]
            rfl
          refine pure_ (i := 12) (N := some 29) (v := ?_) (a' := ?_) #[true, true, true, true, true, true, true, true, true, true, true, true, true, false, true, false, false, false] rfl rfl (any_of HT_.out (by kernel_rfl)) (fun _ _ _ h => h) (Or.inl ⟨by rfl, ?_⟩) ?_ ?_
          rotate_left
          · intro w'
            go_simp
            with_reducible rfl
          rotate_left
          · simp only [Act.put, List.setIfInBounds_toArray, List.set_cons_zero, List.set_cons_succ, i64_w, i32_w]
            rfl
          refine pure_ (i := 13) (N := some 30) (v := ?_) (a' := ?_) #[true, true, true, true, true, true, true, true, true, true, true, true, true, true, true, false, false, false] rfl rfl (any_of HT_.out (by kernel_rfl)) (fun _ _ _ h => h) (Or.inl ⟨by rfl, ?_⟩) ?_ ?_
          rotate_left
          · intro w'
            go_simp
            with_reducible rfl
          rotate_left
          · simp only [Act.put, List.setIfInBounds_toArray, List.set_cons_zero, List.set_cons_succ, i64_w, i32_w]
            rfl
          refine one_ (i := 15) (N := none) #[true, true, true, true, true, true, true, true, true, true, true, true, true, true, true, true, false, false] rfl rfl (one_of HT_.out (by kernel_rfl)) (by decide) (fun K hK => ?_)
          obtain ⟨c60, c61, c62, c63, c64, c65, f60, f61, f62, f63, f64, f65⟩ := cz6_ BZ.out
          refine skip_ (w1 := ?_) rfl rfl ?_ ?_
          rotate_left
          · go_simp
            rfl
          have BT' := Lib.hid (far6_ BT.out NT.out (.string x0) (.string x1) (.int .i64 x2) (.bool x3) (.string x4) (.slice Ax x5.length cx))
          have BZ' := Lib.hid (put6_ BZ.out (.string x0) (.string x1) (.int .i64 x2) (.bool x3) (.string x4) (.slice Ax x5.length cx))
          have HX' := Lib.hid (R_far6 (b0 := .string x0) (b1 := .string x1) (b2 := .int .i64 x2) (b3 := .bool x3) (b4 := .string x4) (b5 := .slice Ax x5.length cx) HX.out (fun _ h => h))
          have HB' := Lib.hid (below_six HB.out ZB.out (.string x0) (.string x1) (.int .i64 x2) (.bool x3) (.string x4) (.slice Ax x5.length cx))
          clear c60 c61 c62 c63 c64 c65 f60 f61 f62 f63 f64 f65
          clear BT BZ HX HB
          have BT := BT'
          have BZ := BZ'
          have HX := HX'
          have HB := HB'
          clear BT' BZ' HX' HB'
          refine hK.out _ _ ⟨(blk_cell BT.out 0).trans rfl, (blk_cell BT.out 3).trans rfl, (blk_cell BT.out 4).trans rfl⟩ (fun hHeld => ?_)
          clear hK K
          refine pure_ (i := 16) (N := some 4) (v := ?_) (a' := ?_) #[true, true, true, true, true, true, true, true, true, true, true, true, true, true, true, true, true, false] rfl rfl (any_of HT_.out (by kernel_rfl)) (fun _ _ _ h => h) (Or.inl ⟨by rfl, ?_⟩) ?_ ?_
          rotate_left
          · intro w'
            go_simp
            with_reducible rfl
          rotate_left
          · simp only [Act.put, List.setIfInBounds_toArray, List.set_cons_zero, List.set_cons_succ, i64_w, i32_w]
            rfl
          refine pure_ (i := 17) (N := some 5) (v := ?_) (a' := ?_) #[true, true, true, true, true, true, true, true, true, true, true, true, true, true, true, true, true, true] rfl rfl (any_of HT_.out (by kernel_rfl)) (fun _ _ _ h => h) (Or.inl ⟨by rfl, ?_⟩) ?_ ?_
          rotate_left
          · intro w'
            go_simp
            with_reducible rfl
          rotate_left
          · simp only [Act.put, List.setIfInBounds_toArray, List.set_cons_zero, List.set_cons_succ, i64_w, i32_w]
            rfl
          refine done_ (done_of HT_.out (by kernel_rfl)) ?_
          try go_wp2_with (fail)
          go_meet
          case rel => exact ⟨z, Ax, cx, rfl, rfl, rfl, BT, BZ, Lib.hid (Kd.R_reads' HX.out).2, HB⟩
      · refine box_step ?hg (N := 3) ?hd (cs := #[.string ⟨#[]⟩, .string ⟨#[]⟩, .int .i64 0, .bool false, .string ⟨#[]⟩, .slice none 0 0]) (t := 40) ?hr ?_; (case hd => rfl); (case hg => rfl); (case hr => first | (go_simp; done) | (go_simp; rfl))
        intro z hz wq hbox hb
        have ZB := Lib.hid (show w.heap.size ≤ z by rw [hz]; exact HB.out.size)
        have NT := Lib.hid (show b ≠ z by rw [hz]; have := blk_lt BT.out; omega)
        have BT' := Lib.hid (blk_below BT.out hb)
        have HB' := Lib.hid (below_step HB.out hb)
        have HS' := Lib.hid (Kd.S_below HS.out hb)
        clear BT HB HS
        have BT := BT'
        have HB := HB'
        have HS := HS'
        clear BT' HB' HS'
        have BZ := Lib.hid hbox
        clear hz hbox hb
        refine hK.out _ _ ⟨(blk_cell BT.out 0).trans rfl, (blk_cell BT.out 3).trans rfl, (blk_cell BT.out 4).trans rfl⟩ (fun hHeld => ?_)
        clear hK K
        refine norm_ (a' := ?_) ?_ ?_
        rotate_left
        · show Act.put _ (some 3) _ = _
          simp only [Act.put, List.setIfInBounds_toArray, List.set_cons_zero, List.set_cons_succ, i64_w, i32_w]
          rfl
        refine one_ (i := 5) (N := some 23) #[true, true, true, true, true, true, true, true, false, false, false, false, false, false, true, false, false, false] rfl rfl (one_of HT_.out (by kernel_rfl)) (by decide) (fun K hK => ?_)
        refine lit_step rfl ?hr ?_; (case hr => first | (go_simp; done) | (go_simp; rfl))
        intro g hg wq hE hb
        have GB := Lib.hid (show w.heap.size ≤ g by rw [hg]; exact HB.out.size)
        have NB := Lib.hid (show b ≠ g by rw [hg]; have := blk_lt BT.out; omega)
        have GL := Lib.hid (show g < wq.heap.size from hE.1)
        have HE := Lib.hid (hE.2 w.heap.size GB.out)
        have NZ := Lib.hid (show z ≠ g by rw [hg]; have := blk_lt BZ.out; omega)
        have BT' := Lib.hid (blk_below BT.out hb)
        have HB' := Lib.hid (below_step HB.out hb)
        have BZ' := Lib.hid (blk_below BZ.out hb)
        have HS' := Lib.hid (Kd.S_below (Kd.S_mono (Kd.S_bound HS.out) (ok' := fun q => q ≠ g) (fun q hq => by have := hq.2.2.1; omega)) hb)
        clear BT HB BZ HS
        have BT := BT'
        have HB := HB'
        have BZ := BZ'
        have HS := HS'
        clear BT' HB' BZ' HS'
        clear hg hE hb
        refine hK.out _ _ ⟨(blk_cell BT.out 0).trans rfl, (blk_cell BT.out 3).trans rfl, (blk_cell BT.out 4).trans rfl⟩ (fun hHeld => ?_)
        clear hK K
        refine norm_ (a' := ?_) ?_ ?_
        rotate_left
        · show Act.put _ (some 23) _ = _
          simp only [Act.put, List.setIfInBounds_toArray, List.set_cons_zero, List.set_cons_succ, i64_w, i32_w]
          rfl
        refine one_ (i := 8) (N := some 26) #[true, true, true, true, true, true, true, true, true, false, false, false, false, false, true, false, false, false] rfl rfl (one_of HT_.out (by kernel_rfl)) (by decide) (fun K hK => ?_)
        refine Kd.R_append_rows_step k68 (w0 := w) w.heap.size rfl (.tmp 23) (.tmp 25) 60 68 (.agg #[(.string ⟨#[]⟩), (.string ⟨#[]⟩)]) 32 rfl Tryz.underlying60 info68 rfl (by decide) (by omega) (.slice (some ⟨g, 0, none⟩) 0 0) [] l2 A4 l2.length c4 (fun _ => True) (fun _ => False) rfl rfl HE.out (Kd.C_below HQ.out HB.out) (fun _ _ h => h) (fun _ h => h.elim) (fun _ _ => trivial) HB.out HB.out.size (by have := KP.out; simp; omega) ?_
        intro vp wq ho hb hg hat
        clear hat
        rw [List.nil_append] at ho
        obtain ⟨Ap, cp, rfl⟩ := Kd.R_slice ho
        have BT' := Lib.hid (blk_grown BT.out hg (fun e => NB.out (Option.some.inj e)))
        have HS' := Lib.hid (Kd.S_step HS.out (fun q hq hlt => hg.block q hlt (fun e => hq (Option.some.inj e))))
        have HB' := Lib.hid hb
        have BZ' := Lib.hid (blk_grown BZ.out hg (fun e => NZ.out (Option.some.inj e)))
        clear BT HS HB BZ
        have BT := BT'
        have HS := HS'
        have HB := HB'
        have BZ := BZ'
        clear BT' HS' HB' BZ'
        have HP := Lib.hid ho
        clear HE GL ho hb hg
        refine hK.out _ _ ⟨(blk_cell BT.out 0).trans rfl, (blk_cell BT.out 3).trans rfl, (blk_cell BT.out 4).trans rfl⟩ (fun hHeld => ?_)
        clear hK K
        refine norm_ (a' := ?_) ?_ ?_
        rotate_left
        · show Act.put _ (some 26) _ = _
          simp only [Act.put, List.setIfInBounds_toArray, List.set_cons_zero, List.set_cons_succ, i64_w, i32_w]
          rfl
        refine one_ (i := 9) (N := some 27) #[true, true, true, true, true, true, true, true, true, true, false, false, false, false, true, false, false, false] rfl rfl (one_of HT_.out (by kernel_rfl)) (by decide) (fun K hK => ?_)
        refine goes_ Tryz.func34 (by kernel_rfl) rfl #[.slice Ac c.length cc, .string a1, .slice Ap l2.length cp] (by rfl) rfl rfl (by first | rfl | ((try simp only [List.map_toArray, List.map_cons, List.map_nil]); first | done | rfl | (simp only [List.length_drop, List.length_take]; rfl))) ?_
        refine (KA.out _ Ac Ap cc cp HB.out (Kd.S_reads' HS.out).2.2 (Kd.S_reads' HS.out).2.1 (Kd.R_reads' HP.out).2.2 (Kd.R_reads' HP.out).2.1).mono ?_
        rintro e wq ⟨vx, rfl, hX, hb⟩
        refine ⟨_, rfl, ?_⟩
        obtain ⟨Ax, cx, rfl⟩ := Kd.R_slice hX
        have HX := Lib.hid (Kd.R_lower (Kd.R_mono (Kd.R_bound hX) (ok' := fun q => q ≠ z) (fun q hq => by have := hq.2.1; have := blk_lt BZ.out; omega)) HB.out.size)
        have BT' := Lib.hid (blk_below BT.out hb)
        have HB' := Lib.hid (below_step HB.out hb)
        have BZ' := Lib.hid (blk_below BZ.out hb)
        clear BT HB BZ
        have BT := BT'
        have HB := HB'
        have BZ := BZ'
        clear BT' HB' BZ'
        clear hX hb HS HP
        refine hK.out _ _ ⟨(blk_cell BT.out 0).trans rfl, (blk_cell BT.out 3).trans rfl, (blk_cell BT.out 4).trans rfl⟩ (fun hHeld => ?_)
        clear hK K
        refine norm_ (a' := ?_) ?_ ?_
        rotate_left
        · show Act.put _ (some 27) _ = _
          simp only [Act.put, List.setIfInBounds_toArray, List.set_cons_zero, List.set_cons_succ, i64_w, i32_w]
          rfl
        refine pure_ (i := 10) (N := some 17) (v := ?_) (a' := ?_) #[true, true, true, true, true, true, true, true, true, true, true, false, false, false, true, false, false, false] rfl rfl (any_of HT_.out (by kernel_rfl)) (fun _ _ _ h => h) (Or.inl ⟨by rfl, ?_⟩) ?_ ?_
        rotate_left
        · intro w'
          go_simp
          with_reducible rfl
        rotate_left
        · simp only [Act.put, List.setIfInBounds_toArray, List.set_cons_zero, List.set_cons_succ, i64_w, i32_w]
          rfl
        refine pure_ (i := 11) (N := some 28) (v := ?_) (a' := ?_) #[true, true, true, true, true, true, true, true, true, true, true, true, false, false, true, false, false, false] rfl rfl (any_of HT_.out (by kernel_rfl)) (fun _ _ _ h => h) (Or.inl ⟨by rfl, ?_⟩) ?_ ?_
        rotate_left
        · intro w'
          go_simp
          with_reducible rfl
        rotate_left
        · simp only [Act.put, List.setIfInBounds_toArray, List.set_cons_zero, List.set_cons_succ, i64_w, i32_w]
          rfl
        refine pure_ (i := 12) (N := some 29) (v := ?_) (a' := ?_) #[true, true, true, true, true, true, true, true, true, true, true, true, true, false, true, false, false, false] rfl rfl (any_of HT_.out (by kernel_rfl)) (fun _ _ _ h => h) (Or.inl ⟨by rfl, ?_⟩) ?_ ?_
        rotate_left
        · intro w'
          go_simp
          with_reducible rfl
        rotate_left
        · simp only [Act.put, List.setIfInBounds_toArray, List.set_cons_zero, List.set_cons_succ, i64_w, i32_w]
          rfl
        refine pure_ (i := 13) (N := some 30) (v := ?_) (a' := ?_) #[true, true, true, true, true, true, true, true, true, true, true, true, true, true, true, false, false, false] rfl rfl (any_of HT_.out (by kernel_rfl)) (fun _ _ _ h => h) (Or.inl ⟨by rfl, ?_⟩) ?_ ?_
        rotate_left
        · intro w'
          go_simp
          with_reducible rfl
        rotate_left
        · simp only [Act.put, List.setIfInBounds_toArray, List.set_cons_zero, List.set_cons_succ, i64_w, i32_w]
          rfl
        refine one_ (i := 15) (N := none) #[true, true, true, true, true, true, true, true, true, true, true, true, true, true, true, true, false, false] rfl rfl (one_of HT_.out (by kernel_rfl)) (by decide) (fun K hK => ?_)
        obtain ⟨c60, c61, c62, c63, c64, c65, f60, f61, f62, f63, f64, f65⟩ := cz6_ BZ.out
        refine skip_ (w1 := ?_) rfl rfl ?_ ?_
        rotate_left
        · go_simp
          rfl
        have BT' := Lib.hid (far6_ BT.out NT.out (.string x0) (.string x1) (.int .i64 x2) (.bool x3) (.string x4) (.slice Ax x5.length cx))
        have BZ' := Lib.hid (put6_ BZ.out (.string x0) (.string x1) (.int .i64 x2) (.bool x3) (.string x4) (.slice Ax x5.length cx))
        have HX' := Lib.hid (R_far6 (b0 := .string x0) (b1 := .string x1) (b2 := .int .i64 x2) (b3 := .bool x3) (b4 := .string x4) (b5 := .slice Ax x5.length cx) HX.out (fun _ h => h))
        have HB' := Lib.hid (below_six HB.out ZB.out (.string x0) (.string x1) (.int .i64 x2) (.bool x3) (.string x4) (.slice Ax x5.length cx))
        clear c60 c61 c62 c63 c64 c65 f60 f61 f62 f63 f64 f65
        clear BT BZ HX HB
        have BT := BT'
        have BZ := BZ'
        have HX := HX'
        have HB := HB'
        clear BT' BZ' HX' HB'
        refine hK.out _ _ ⟨(blk_cell BT.out 0).trans rfl, (blk_cell BT.out 3).trans rfl, (blk_cell BT.out 4).trans rfl⟩ (fun hHeld => ?_)
        clear hK K
        refine pure_ (i := 16) (N := some 4) (v := ?_) (a' := ?_) #[true, true, true, true, true, true, true, true, true, true, true, true, true, true, true, true, true, false] rfl rfl (any_of HT_.out (by kernel_rfl)) (fun _ _ _ h => h) (Or.inl ⟨by rfl, ?_⟩) ?_ ?_
        rotate_left
        · intro w'
          go_simp
          with_reducible rfl
        rotate_left
        · simp only [Act.put, List.setIfInBounds_toArray, List.set_cons_zero, List.set_cons_succ, i64_w, i32_w]
          rfl
        refine pure_ (i := 17) (N := some 5) (v := ?_) (a' := ?_) #[true, true, true, true, true, true, true, true, true, true, true, true, true, true, true, true, true, true] rfl rfl (any_of HT_.out (by kernel_rfl)) (fun _ _ _ h => h) (Or.inl ⟨by rfl, ?_⟩) ?_ ?_
        rotate_left
        · intro w'
          go_simp
          with_reducible rfl
        rotate_left
        · simp only [Act.put, List.setIfInBounds_toArray, List.set_cons_zero, List.set_cons_succ, i64_w, i32_w]
          rfl
        refine done_ (done_of HT_.out (by kernel_rfl)) ?_
        try go_wp2_with (fail)
        go_meet
        case rel => exact ⟨z, Ax, cx, rfl, rfl, rfl, BT, BZ, Lib.hid (Kd.R_reads' HX.out).2, HB⟩
    · refine lit_step rfl ?hr ?_; (case hr => first | (go_simp; done) | (go_simp; rfl))
      intro g hg wq hE hb
      have GB := Lib.hid (show w.heap.size ≤ g by rw [hg]; exact HB.out.size)
      have NB := Lib.hid (show b ≠ g by rw [hg]; have := blk_lt BT.out; omega)
      have GL := Lib.hid (show g < wq.heap.size from hE.1)
      have HE := Lib.hid (hE.2 w.heap.size GB.out)
      have BT' := Lib.hid (blk_below BT.out hb)
      have HB' := Lib.hid (below_step HB.out hb)
      clear BT HB
      have BT := BT'
      have HB := HB'
      clear BT' HB'
      clear hg hE hb
      refine hK.out _ _ ⟨(blk_cell BT.out 0).trans rfl, (blk_cell BT.out 3).trans rfl, (blk_cell BT.out 4).trans rfl⟩ (fun hHeld => ?_)
      clear hK K
      refine norm_ (a' := ?_) ?_ ?_
      rotate_left
      · show Act.put _ (some 23) _ = _
        simp only [Act.put, List.setIfInBounds_toArray, List.set_cons_zero, List.set_cons_succ, i64_w, i32_w]
        rfl
      refine two_ (i := 2) (j := 14) (Ni := some 20) (Nj := some 3) #[true, true, true, true, true, true, true, true, false, false, false, false, false, false, false, false, false, false] #[true, true, false, true, true, true, true, true, false, false, false, false, false, false, true, false, false, false] rfl rfl rfl rfl (two_of HT_.out (by kernel_rfl)) (by decide) (by decide) (fun K hK => ?_) (fun K hK => ?_)
      · refine goes_ Tryz.func15 (by kernel_rfl) rfl #[.slice A0 l0.length c0] (by rfl) rfl rfl (by first | rfl | ((try simp only [List.map_toArray, List.map_cons, List.map_nil]); first | done | rfl | (simp only [List.length_drop, List.length_take]; rfl))) ?_
        with_reducible refine (wicketlaw11_copied.calls k _ _ l0 c _ (Kd.C_below HR.out HB.out) HC.out K1.out).mono ?_
        rintro e wq ⟨vc, rfl, hS, hb⟩
        refine ⟨_, rfl, ?_⟩
        obtain ⟨Ac, cc, rfl⟩ := Kd.S_slice hS
        have HS' := Lib.hid (Kd.S_lower (Kd.S_mono (Kd.S_bound hS) (ok' := fun q => q ≠ g) (fun q hq => by have := hq.2.1; have := GL.out; omega)) HB.out.size)
        have BT' := Lib.hid (blk_below BT.out hb)
        have HB' := Lib.hid (below_step HB.out hb)
        have HE' := Lib.hid (Kd.R_below HE.out hb)
        have GL' := Lib.hid (Nat.lt_of_lt_of_le GL.out hb.size)
        clear BT HB HE GL
        have BT := BT'
        have HB := HB'
        have HE := HE'
        have GL := GL'
        clear BT' HB' HE' GL'
        have HS := HS'
        clear HS' hS hb
        refine hK.out _ _ ⟨(blk_cell BT.out 0).trans rfl, (blk_cell BT.out 3).trans rfl, (blk_cell BT.out 4).trans rfl⟩ (fun hHeld => ?_)
        clear hK K
        refine norm_ (a' := ?_) ?_ ?_
        rotate_left
        · show Act.put _ (some 20) _ = _
          simp only [Act.put, List.setIfInBounds_toArray, List.set_cons_zero, List.set_cons_succ, i64_w, i32_w]
          rfl
        refine two_ (i := 8) (j := 14) (Ni := some 26) (Nj := some 3) #[true, true, true, true, true, true, true, true, true, false, false, false, false, false, false, false, false, false] #[true, true, true, true, true, true, true, true, false, false, false, false, false, false, true, false, false, false] rfl rfl rfl rfl (two_of HT_.out (by kernel_rfl)) (by decide) (by decide) (fun K hK => ?_) (fun K hK => ?_)
        · refine Kd.R_append_rows_step k68 (w0 := w) w.heap.size rfl (.tmp 23) (.tmp 25) 60 68 (.agg #[(.string ⟨#[]⟩), (.string ⟨#[]⟩)]) 32 rfl Tryz.underlying60 info68 rfl (by decide) (by omega) (.slice (some ⟨g, 0, none⟩) 0 0) [] l2 A4 l2.length c4 (fun _ => True) (fun _ => False) rfl rfl HE.out (Kd.C_below HQ.out HB.out) (fun _ _ h => h) (fun _ h => h.elim) (fun _ _ => trivial) HB.out HB.out.size (by have := KP.out; simp; omega) ?_
          intro vp wq ho hb hg hat
          clear hat
          rw [List.nil_append] at ho
          obtain ⟨Ap, cp, rfl⟩ := Kd.R_slice ho
          have BT' := Lib.hid (blk_grown BT.out hg (fun e => NB.out (Option.some.inj e)))
          have HS' := Lib.hid (Kd.S_step HS.out (fun q hq hlt => hg.block q hlt (fun e => hq (Option.some.inj e))))
          have HB' := Lib.hid hb
          clear BT HS HB
          have BT := BT'
          have HS := HS'
          have HB := HB'
          clear BT' HS' HB'
          have HP := Lib.hid ho
          clear HE GL ho hb hg
          refine hK.out _ _ ⟨(blk_cell BT.out 0).trans rfl, (blk_cell BT.out 3).trans rfl, (blk_cell BT.out 4).trans rfl⟩ (fun hHeld => ?_)
          clear hK K
          refine norm_ (a' := ?_) ?_ ?_
          rotate_left
          · show Act.put _ (some 26) _ = _
            simp only [Act.put, List.setIfInBounds_toArray, List.set_cons_zero, List.set_cons_succ, i64_w, i32_w]
            rfl
          refine two_ (i := 9) (j := 14) (Ni := some 27) (Nj := some 3) #[true, true, true, true, true, true, true, true, true, true, false, false, false, false, false, false, false, false] #[true, true, true, true, true, true, true, true, true, false, false, false, false, false, true, false, false, false] rfl rfl rfl rfl (two_of HT_.out (by kernel_rfl)) (by decide) (by decide) (fun K hK => ?_) (fun K hK => ?_)
          · refine goes_ Tryz.func34 (by kernel_rfl) rfl #[.slice Ac c.length cc, .string a1, .slice Ap l2.length cp] (by rfl) rfl rfl (by first | rfl | ((try simp only [List.map_toArray, List.map_cons, List.map_nil]); first | done | rfl | (simp only [List.length_drop, List.length_take]; rfl))) ?_
            refine (KA.out _ Ac Ap cc cp HB.out (Kd.S_reads' HS.out).2.2 (Kd.S_reads' HS.out).2.1 (Kd.R_reads' HP.out).2.2 (Kd.R_reads' HP.out).2.1).mono ?_
            rintro e wq ⟨vx, rfl, hX, hb⟩
            refine ⟨_, rfl, ?_⟩
            obtain ⟨Ax, cx, rfl⟩ := Kd.R_slice hX
            have HX := Lib.hid (Kd.R_lower hX HB.out.size)
            have BT' := Lib.hid (blk_below BT.out hb)
            have HB' := Lib.hid (below_step HB.out hb)
            clear BT HB
            have BT := BT'
            have HB := HB'
            clear BT' HB'
            clear hX hb HS HP
            refine hK.out _ _ ⟨(blk_cell BT.out 0).trans rfl, (blk_cell BT.out 3).trans rfl, (blk_cell BT.out 4).trans rfl⟩ (fun hHeld => ?_)
            clear hK K
            refine norm_ (a' := ?_) ?_ ?_
            rotate_left
            · show Act.put _ (some 27) _ = _
              simp only [Act.put, List.setIfInBounds_toArray, List.set_cons_zero, List.set_cons_succ, i64_w, i32_w]
              rfl
            refine pure_ (i := 10) (N := some 17) (v := ?_) (a' := ?_) #[true, true, true, true, true, true, true, true, true, true, true, false, false, false, false, false, false, false] rfl rfl (any_of HT_.out (by kernel_rfl)) (fun _ _ _ h => h) (Or.inl ⟨by rfl, ?_⟩) ?_ ?_
            rotate_left
            · intro w'
              go_simp
              with_reducible rfl
            rotate_left
            · simp only [Act.put, List.setIfInBounds_toArray, List.set_cons_zero, List.set_cons_succ, i64_w, i32_w]
              rfl
            refine pure_ (i := 11) (N := some 28) (v := ?_) (a' := ?_) #[true, true, true, true, true, true, true, true, true, true, true, true, false, false, false, false, false, false] rfl rfl (any_of HT_.out (by kernel_rfl)) (fun _ _ _ h => h) (Or.inl ⟨by rfl, ?_⟩) ?_ ?_
            rotate_left
            · intro w'
              go_simp
              with_reducible rfl
            rotate_left
            · simp only [Act.put, List.setIfInBounds_toArray, List.set_cons_zero, List.set_cons_succ, i64_w, i32_w]
              rfl
            refine pure_ (i := 12) (N := some 29) (v := ?_) (a' := ?_) #[true, true, true, true, true, true, true, true, true, true, true, true, true, false, false, false, false, false] rfl rfl (any_of HT_.out (by kernel_rfl)) (fun _ _ _ h => h) (Or.inl ⟨by rfl, ?_⟩) ?_ ?_
            rotate_left
            · intro w'
              go_simp
              with_reducible rfl
            rotate_left
            · simp only [Act.put, List.setIfInBounds_toArray, List.set_cons_zero, List.set_cons_succ, i64_w, i32_w]
              rfl
            refine pure_ (i := 13) (N := some 30) (v := ?_) (a' := ?_) #[true, true, true, true, true, true, true, true, true, true, true, true, true, true, false, false, false, false] rfl rfl (any_of HT_.out (by kernel_rfl)) (fun _ _ _ h => h) (Or.inl ⟨by rfl, ?_⟩) ?_ ?_
            rotate_left
            · intro w'
              go_simp
              with_reducible rfl
            rotate_left
            · simp only [Act.put, List.setIfInBounds_toArray, List.set_cons_zero, List.set_cons_succ, i64_w, i32_w]
              rfl
            refine one_ (i := 14) (N := some 3) #[true, true, true, true, true, true, true, true, true, true, true, true, true, true, true, false, false, false] rfl rfl (one_of HT_.out (by kernel_rfl)) (by decide) (fun K hK => ?_)
            refine box_step ?hg (N := 3) ?hd (cs := #[.string ⟨#[]⟩, .string ⟨#[]⟩, .int .i64 0, .bool false, .string ⟨#[]⟩, .slice none 0 0]) (t := 40) ?hr ?_; (case hd => rfl); (case hg => rfl); (case hr => first | (go_simp; done) | (go_simp; rfl))
            intro z hz wq hbox hb
            have ZB := Lib.hid (show w.heap.size ≤ z by rw [hz]; exact HB.out.size)
            have NT := Lib.hid (show b ≠ z by rw [hz]; have := blk_lt BT.out; omega)
            have BT' := Lib.hid (blk_below BT.out hb)
            have HB' := Lib.hid (below_step HB.out hb)
            have HX' := Lib.hid (Kd.R_below (Kd.R_mono (Kd.R_bound HX.out) (ok' := fun q => q ≠ z) (fun q hq => by have := hq.2.2.1; omega)) hb)
            clear BT HB HX
            have BT := BT'
            have HB := HB'
            have HX := HX'
            clear BT' HB' HX'
            have BZ := Lib.hid hbox
            clear hz hbox hb
            refine hK.out _ _ ⟨(blk_cell BT.out 0).trans rfl, (blk_cell BT.out 3).trans rfl, (blk_cell BT.out 4).trans rfl⟩ (fun hHeld => ?_)
            clear hK K
            refine norm_ (a' := ?_) ?_ ?_
            rotate_left
            · show Act.put _ (some 3) _ = _
              simp only [Act.put, List.setIfInBounds_toArray, List.set_cons_zero, List.set_cons_succ, i64_w, i32_w]
              rfl
            refine one_ (i := 15) (N := none) #[true, true, true, true, true, true, true, true, true, true, true, true, true, true, true, true, false, false] rfl rfl (one_of HT_.out (by kernel_rfl)) (by decide) (fun K hK => ?_)
            obtain ⟨c60, c61, c62, c63, c64, c65, f60, f61, f62, f63, f64, f65⟩ := cz6_ BZ.out
            refine skip_ (w1 := ?_) rfl rfl ?_ ?_
            rotate_left
            · go_simp
              rfl
            have BT' := Lib.hid (far6_ BT.out NT.out (.string x0) (.string x1) (.int .i64 x2) (.bool x3) (.string x4) (.slice Ax x5.length cx))
            have BZ' := Lib.hid (put6_ BZ.out (.string x0) (.string x1) (.int .i64 x2) (.bool x3) (.string x4) (.slice Ax x5.length cx))
            have HX' := Lib.hid (R_far6 (b0 := .string x0) (b1 := .string x1) (b2 := .int .i64 x2) (b3 := .bool x3) (b4 := .string x4) (b5 := .slice Ax x5.length cx) HX.out (fun _ h => h))
            have HB' := Lib.hid (below_six HB.out ZB.out (.string x0) (.string x1) (.int .i64 x2) (.bool x3) (.string x4) (.slice Ax x5.length cx))
            clear c60 c61 c62 c63 c64 c65 f60 f61 f62 f63 f64 f65
            clear BT BZ HX HB
            have BT := BT'
            have BZ := BZ'
            have HX := HX'
            have HB := HB'
            clear BT' BZ' HX' HB'
            refine hK.out _ _ ⟨(blk_cell BT.out 0).trans rfl, (blk_cell BT.out 3).trans rfl, (blk_cell BT.out 4).trans rfl⟩ (fun hHeld => ?_)
            clear hK K
            refine pure_ (i := 16) (N := some 4) (v := ?_) (a' := ?_) #[true, true, true, true, true, true, true, true, true, true, true, true, true, true, true, true, true, false] rfl rfl (any_of HT_.out (by kernel_rfl)) (fun _ _ _ h => h) (Or.inl ⟨by rfl, ?_⟩) ?_ ?_
            rotate_left
            · intro w'
              go_simp
              with_reducible rfl
            rotate_left
            · simp only [Act.put, List.setIfInBounds_toArray, List.set_cons_zero, List.set_cons_succ, i64_w, i32_w]
              rfl
            refine pure_ (i := 17) (N := some 5) (v := ?_) (a' := ?_) #[true, true, true, true, true, true, true, true, true, true, true, true, true, true, true, true, true, true] rfl rfl (any_of HT_.out (by kernel_rfl)) (fun _ _ _ h => h) (Or.inl ⟨by rfl, ?_⟩) ?_ ?_
            rotate_left
            · intro w'
              go_simp
              with_reducible rfl
            rotate_left
            · simp only [Act.put, List.setIfInBounds_toArray, List.set_cons_zero, List.set_cons_succ, i64_w, i32_w]
              rfl
            refine done_ (done_of HT_.out (by kernel_rfl)) ?_
            try go_wp2_with (fail)
            go_meet
            case rel => exact ⟨z, Ax, cx, rfl, rfl, rfl, BT, BZ, Lib.hid (Kd.R_reads' HX.out).2, HB⟩
          · refine box_step ?hg (N := 3) ?hd (cs := #[.string ⟨#[]⟩, .string ⟨#[]⟩, .int .i64 0, .bool false, .string ⟨#[]⟩, .slice none 0 0]) (t := 40) ?hr ?_; (case hd => rfl); (case hg => rfl); (case hr => first | (go_simp; done) | (go_simp; rfl))
            intro z hz wq hbox hb
            have ZB := Lib.hid (show w.heap.size ≤ z by rw [hz]; exact HB.out.size)
            have NT := Lib.hid (show b ≠ z by rw [hz]; have := blk_lt BT.out; omega)
            have BT' := Lib.hid (blk_below BT.out hb)
            have HB' := Lib.hid (below_step HB.out hb)
            have HS' := Lib.hid (Kd.S_below HS.out hb)
            have HP' := Lib.hid (Kd.R_below HP.out hb)
            clear BT HB HS HP
            have BT := BT'
            have HB := HB'
            have HS := HS'
            have HP := HP'
            clear BT' HB' HS' HP'
            have BZ := Lib.hid hbox
            clear hz hbox hb
            refine hK.out _ _ ⟨(blk_cell BT.out 0).trans rfl, (blk_cell BT.out 3).trans rfl, (blk_cell BT.out 4).trans rfl⟩ (fun hHeld => ?_)
            clear hK K
            refine norm_ (a' := ?_) ?_ ?_
            rotate_left
            · show Act.put _ (some 3) _ = _
              simp only [Act.put, List.setIfInBounds_toArray, List.set_cons_zero, List.set_cons_succ, i64_w, i32_w]
              rfl
            refine one_ (i := 9) (N := some 27) #[true, true, true, true, true, true, true, true, true, true, false, false, false, false, true, false, false, false] rfl rfl (one_of HT_.out (by kernel_rfl)) (by decide) (fun K hK => ?_)
            refine goes_ Tryz.func34 (by kernel_rfl) rfl #[.slice Ac c.length cc, .string a1, .slice Ap l2.length cp] (by rfl) rfl rfl (by first | rfl | ((try simp only [List.map_toArray, List.map_cons, List.map_nil]); first | done | rfl | (simp only [List.length_drop, List.length_take]; rfl))) ?_
            refine (KA.out _ Ac Ap cc cp HB.out (Kd.S_reads' HS.out).2.2 (Kd.S_reads' HS.out).2.1 (Kd.R_reads' HP.out).2.2 (Kd.R_reads' HP.out).2.1).mono ?_
            rintro e wq ⟨vx, rfl, hX, hb⟩
            refine ⟨_, rfl, ?_⟩
            obtain ⟨Ax, cx, rfl⟩ := Kd.R_slice hX
            have HX := Lib.hid (Kd.R_lower (Kd.R_mono (Kd.R_bound hX) (ok' := fun q => q ≠ z) (fun q hq => by have := hq.2.1; have := blk_lt BZ.out; omega)) HB.out.size)
            have BT' := Lib.hid (blk_below BT.out hb)
            have HB' := Lib.hid (below_step HB.out hb)
            have BZ' := Lib.hid (blk_below BZ.out hb)
            clear BT HB BZ
            have BT := BT'
            have HB := HB'
            have BZ := BZ'
            clear BT' HB' BZ'
            clear hX hb HS HP
            refine hK.out _ _ ⟨(blk_cell BT.out 0).trans rfl, (blk_cell BT.out 3).trans rfl, (blk_cell BT.out 4).trans rfl⟩ (fun hHeld => ?_)
            clear hK K
            refine norm_ (a' := ?_) ?_ ?_
            rotate_left
            · show Act.put _ (some 27) _ = _
              simp only [Act.put, List.setIfInBounds_toArray, List.set_cons_zero, List.set_cons_succ, i64_w, i32_w]
              rfl
            refine pure_ (i := 10) (N := some 17) (v := ?_) (a' := ?_) #[true, true, true, true, true, true, true, true, true, true, true, false, false, false, true, false, false, false] rfl rfl (any_of HT_.out (by kernel_rfl)) (fun _ _ _ h => h) (Or.inl ⟨by rfl, ?_⟩) ?_ ?_
            rotate_left
            · intro w'
              go_simp
              with_reducible rfl
            rotate_left
            · simp only [Act.put, List.setIfInBounds_toArray, List.set_cons_zero, List.set_cons_succ, i64_w, i32_w]
              rfl
            refine pure_ (i := 11) (N := some 28) (v := ?_) (a' := ?_) #[true, true, true, true, true, true, true, true, true, true, true, true, false, false, true, false, false, false] rfl rfl (any_of HT_.out (by kernel_rfl)) (fun _ _ _ h => h) (Or.inl ⟨by rfl, ?_⟩) ?_ ?_
            rotate_left
            · intro w'
              go_simp
              with_reducible rfl
            rotate_left
            · simp only [Act.put, List.setIfInBounds_toArray, List.set_cons_zero, List.set_cons_succ, i64_w, i32_w]
              rfl
            refine pure_ (i := 12) (N := some 29) (v := ?_) (a' := ?_) #[true, true, true, true, true, true, true, true, true, true, true, true, true, false, true, false, false, false] rfl rfl (any_of HT_.out (by kernel_rfl)) (fun _ _ _ h => h) (Or.inl ⟨by rfl, ?_⟩) ?_ ?_
            rotate_left
            · intro w'
              go_simp
              with_reducible rfl
            rotate_left
            · simp only [Act.put, List.setIfInBounds_toArray, List.set_cons_zero, List.set_cons_succ, i64_w, i32_w]
              rfl
            refine pure_ (i := 13) (N := some 30) (v := ?_) (a' := ?_) #[true, true, true, true, true, true, true, true, true, true, true, true, true, true, true, false, false, false] rfl rfl (any_of HT_.out (by kernel_rfl)) (fun _ _ _ h => h) (Or.inl ⟨by rfl, ?_⟩) ?_ ?_
            rotate_left
            · intro w'
              go_simp
              with_reducible rfl
            rotate_left
            · simp only [Act.put, List.setIfInBounds_toArray, List.set_cons_zero, List.set_cons_succ, i64_w, i32_w]
              rfl
            refine one_ (i := 15) (N := none) #[true, true, true, true, true, true, true, true, true, true, true, true, true, true, true, true, false, false] rfl rfl (one_of HT_.out (by kernel_rfl)) (by decide) (fun K hK => ?_)
            obtain ⟨c60, c61, c62, c63, c64, c65, f60, f61, f62, f63, f64, f65⟩ := cz6_ BZ.out
            refine skip_ (w1 := ?_) rfl rfl ?_ ?_
            rotate_left
            · go_simp
              rfl
            have BT' := Lib.hid (far6_ BT.out NT.out (.string x0) (.string x1) (.int .i64 x2) (.bool x3) (.string x4) (.slice Ax x5.length cx))
            have BZ' := Lib.hid (put6_ BZ.out (.string x0) (.string x1) (.int .i64 x2) (.bool x3) (.string x4) (.slice Ax x5.length cx))
            have HX' := Lib.hid (R_far6 (b0 := .string x0) (b1 := .string x1) (b2 := .int .i64 x2) (b3 := .bool x3) (b4 := .string x4) (b5 := .slice Ax x5.length cx) HX.out (fun _ h => h))
            have HB' := Lib.hid (below_six HB.out ZB.out (.string x0) (.string x1) (.int .i64 x2) (.bool x3) (.string x4) (.slice Ax x5.length cx))
            clear c60 c61 c62 c63 c64 c65 f60 f61 f62 f63 f64 f65
            clear BT BZ HX HB
            have BT := BT'
            have BZ := BZ'
            have HX := HX'
            have HB := HB'
            clear BT' BZ' HX' HB'
            refine hK.out _ _ ⟨(blk_cell BT.out 0).trans rfl, (blk_cell BT.out 3).trans rfl, (blk_cell BT.out 4).trans rfl⟩ (fun hHeld => ?_)
            clear hK K
            refine pure_ (i := 16) (N := some 4) (v := ?_) (a' := ?_) #[true, true, true, true, true, true, true, true, true, true, true, true, true, true, true, true, true, false] rfl rfl (any_of HT_.out (by kernel_rfl)) (fun _ _ _ h => h) (Or.inl ⟨by rfl, ?_⟩) ?_ ?_
            rotate_left
            · intro w'
              go_simp
              with_reducible rfl
            rotate_left
            · simp only [Act.put, List.setIfInBounds_toArray, List.set_cons_zero, List.set_cons_succ, i64_w, i32_w]
              rfl
            refine pure_ (i := 17) (N := some 5) (v := ?_) (a' := ?_) #[true, true, true, true, true, true, true, true, true, true, true, true, true, true, true, true, true, true] rfl rfl (any_of HT_.out (by kernel_rfl)) (fun _ _ _ h => h) (Or.inl ⟨by rfl, ?_⟩) ?_ ?_
            rotate_left
            · intro w'
              go_simp
              with_reducible rfl
            rotate_left
            · simp only [Act.put, List.setIfInBounds_toArray, List.set_cons_zero, List.set_cons_succ, i64_w, i32_w]
              rfl
            refine done_ (done_of HT_.out (by kernel_rfl)) ?_
            try go_wp2_with (fail)
            go_meet
            case rel => exact ⟨z, Ax, cx, rfl, rfl, rfl, BT, BZ, Lib.hid (Kd.R_reads' HX.out).2, HB⟩
        · refine box_step ?hg (N := 3) ?hd (cs := #[.string ⟨#[]⟩, .string ⟨#[]⟩, .int .i64 0, .bool false, .string ⟨#[]⟩, .slice none 0 0]) (t := 40) ?hr ?_; (case hd => rfl); (case hg => rfl); (case hr => first | (go_simp; done) | (go_simp; rfl))
          intro z hz wq hbox hb
          have ZB := Lib.hid (show w.heap.size ≤ z by rw [hz]; exact HB.out.size)
          have NT := Lib.hid (show b ≠ z by rw [hz]; have := blk_lt BT.out; omega)
          have NZ := Lib.hid (show z ≠ g by rw [hz]; have := GL.out; omega)
          have BT' := Lib.hid (blk_below BT.out hb)
          have HB' := Lib.hid (below_step HB.out hb)
          have HS' := Lib.hid (Kd.S_below HS.out hb)
          have HE' := Lib.hid (Kd.R_below HE.out hb)
          have GL' := Lib.hid (Nat.lt_of_lt_of_le GL.out hb.size)
          clear BT HB HS HE GL
          have BT := BT'
          have HB := HB'
          have HS := HS'
          have HE := HE'
          have GL := GL'
          clear BT' HB' HS' HE' GL'
          have BZ := Lib.hid hbox
          clear hz hbox hb
          refine hK.out _ _ ⟨(blk_cell BT.out 0).trans rfl, (blk_cell BT.out 3).trans rfl, (blk_cell BT.out 4).trans rfl⟩ (fun hHeld => ?_)
          clear hK K
          refine norm_ (a' := ?_) ?_ ?_
          rotate_left
          · show Act.put _ (some 3) _ = _
            simp only [Act.put, List.setIfInBounds_toArray, List.set_cons_zero, List.set_cons_succ, i64_w, i32_w]
            rfl
          refine one_ (i := 8) (N := some 26) #[true, true, true, true, true, true, true, true, true, false, false, false, false, false, true, false, false, false] rfl rfl (one_of HT_.out (by kernel_rfl)) (by decide) (fun K hK => ?_)
          refine Kd.R_append_rows_step k68 (w0 := w) w.heap.size rfl (.tmp 23) (.tmp 25) 60 68 (.agg #[(.string ⟨#[]⟩), (.string ⟨#[]⟩)]) 32 rfl Tryz.underlying60 info68 rfl (by decide) (by omega) (.slice (some ⟨g, 0, none⟩) 0 0) [] l2 A4 l2.length c4 (fun _ => True) (fun _ => False) rfl rfl HE.out (Kd.C_below HQ.out HB.out) (fun _ _ h => h) (fun _ h => h.elim) (fun _ _ => trivial) HB.out HB.out.size (by have := KP.out; simp; omega) ?_
          intro vp wq ho hb hg hat
          clear hat
          rw [List.nil_append] at ho
          obtain ⟨Ap, cp, rfl⟩ := Kd.R_slice ho
          have BT' := Lib.hid (blk_grown BT.out hg (fun e => NB.out (Option.some.inj e)))
          have HS' := Lib.hid (Kd.S_step HS.out (fun q hq hlt => hg.block q hlt (fun e => hq (Option.some.inj e))))
          have HB' := Lib.hid hb
          have BZ' := Lib.hid (blk_grown BZ.out hg (fun e => NZ.out (Option.some.inj e)))
          clear BT HS HB BZ
          have BT := BT'
          have HS := HS'
          have HB := HB'
          have BZ := BZ'
          clear BT' HS' HB' BZ'
          have HP := Lib.hid ho
          clear HE GL ho hb hg
          refine hK.out _ _ ⟨(blk_cell BT.out 0).trans rfl, (blk_cell BT.out 3).trans rfl, (blk_cell BT.out 4).trans rfl⟩ (fun hHeld => ?_)
          clear hK K
          refine norm_ (a' := ?_) ?_ ?_
          rotate_left
          · show Act.put _ (some 26) _ = _
            simp only [Act.put, List.setIfInBounds_toArray, List.set_cons_zero, List.set_cons_succ, i64_w, i32_w]
            rfl
          refine one_ (i := 9) (N := some 27) #[true, true, true, true, true, true, true, true, true, true, false, false, false, false, true, false, false, false] rfl rfl (one_of HT_.out (by kernel_rfl)) (by decide) (fun K hK => ?_)
          refine goes_ Tryz.func34 (by kernel_rfl) rfl #[.slice Ac c.length cc, .string a1, .slice Ap l2.length cp] (by rfl) rfl rfl (by first | rfl | ((try simp only [List.map_toArray, List.map_cons, List.map_nil]); first | done | rfl | (simp only [List.length_drop, List.length_take]; rfl))) ?_
          refine (KA.out _ Ac Ap cc cp HB.out (Kd.S_reads' HS.out).2.2 (Kd.S_reads' HS.out).2.1 (Kd.R_reads' HP.out).2.2 (Kd.R_reads' HP.out).2.1).mono ?_
          rintro e wq ⟨vx, rfl, hX, hb⟩
          refine ⟨_, rfl, ?_⟩
          obtain ⟨Ax, cx, rfl⟩ := Kd.R_slice hX
          have HX := Lib.hid (Kd.R_lower (Kd.R_mono (Kd.R_bound hX) (ok' := fun q => q ≠ z) (fun q hq => by have := hq.2.1; have := blk_lt BZ.out; omega)) HB.out.size)
          have BT' := Lib.hid (blk_below BT.out hb)
          have HB' := Lib.hid (below_step HB.out hb)
          have BZ' := Lib.hid (blk_below BZ.out hb)
          clear BT HB BZ
          have BT := BT'
          have HB := HB'
          have BZ := BZ'
          clear BT' HB' BZ'
          clear hX hb HS HP
          refine hK.out _ _ ⟨(blk_cell BT.out 0).trans rfl, (blk_cell BT.out 3).trans rfl, (blk_cell BT.out 4).trans rfl⟩ (fun hHeld => ?_)
          clear hK K
          refine norm_ (a' := ?_) ?_ ?_
          rotate_left
          · show Act.put _ (some 27) _ = _
            simp only [Act.put, List.setIfInBounds_toArray, List.set_cons_zero, List.set_cons_succ, i64_w, i32_w]
            rfl
          refine pure_ (i := 10) (N := some 17) (v := ?_) (a' := ?_) #[true, true, true, true, true, true, true, true, true, true, true, false, false, false, true, false, false, false] rfl rfl (any_of HT_.out (by kernel_rfl)) (fun _ _ _ h => h) (Or.inl ⟨by rfl, ?_⟩) ?_ ?_
          rotate_left
          · intro w'
            go_simp
            with_reducible rfl
          rotate_left
          · simp only [Act.put, List.setIfInBounds_toArray, List.set_cons_zero, List.set_cons_succ, i64_w, i32_w]
            rfl
          refine pure_ (i := 11) (N := some 28) (v := ?_) (a' := ?_) #[true, true, true, true, true, true, true, true, true, true, true, true, false, false, true, false, false, false] rfl rfl (any_of HT_.out (by kernel_rfl)) (fun _ _ _ h => h) (Or.inl ⟨by rfl, ?_⟩) ?_ ?_
          rotate_left
          · intro w'
            go_simp
            with_reducible rfl
          rotate_left
          · simp only [Act.put, List.setIfInBounds_toArray, List.set_cons_zero, List.set_cons_succ, i64_w, i32_w]
            rfl
          refine pure_ (i := 12) (N := some 29) (v := ?_) (a' := ?_) #[true, true, true, true, true, true, true, true, true, true, true, true, true, false, true, false, false, false] rfl rfl (any_of HT_.out (by kernel_rfl)) (fun _ _ _ h => h) (Or.inl ⟨by rfl, ?_⟩) ?_ ?_
          rotate_left
          · intro w'
            go_simp
            with_reducible rfl
          rotate_left
          · simp only [Act.put, List.setIfInBounds_toArray, List.set_cons_zero, List.set_cons_succ, i64_w, i32_w]
            rfl
          refine pure_ (i := 13) (N := some 30) (v := ?_) (a' := ?_) #[true, true, true, true, true, true, true, true, true, true, true, true, true, true, true, false, false, false] rfl rfl (any_of HT_.out (by kernel_rfl)) (fun _ _ _ h => h) (Or.inl ⟨by rfl, ?_⟩) ?_ ?_
          rotate_left
          · intro w'
            go_simp
            with_reducible rfl
          rotate_left
          · simp only [Act.put, List.setIfInBounds_toArray, List.set_cons_zero, List.set_cons_succ, i64_w, i32_w]
            rfl
          refine one_ (i := 15) (N := none) #[true, true, true, true, true, true, true, true, true, true, true, true, true, true, true, true, false, false] rfl rfl (one_of HT_.out (by kernel_rfl)) (by decide) (fun K hK => ?_)
          obtain ⟨c60, c61, c62, c63, c64, c65, f60, f61, f62, f63, f64, f65⟩ := cz6_ BZ.out
          refine skip_ (w1 := ?_) rfl rfl ?_ ?_
          rotate_left
          · go_simp
            rfl
          have BT' := Lib.hid (far6_ BT.out NT.out (.string x0) (.string x1) (.int .i64 x2) (.bool x3) (.string x4) (.slice Ax x5.length cx))
          have BZ' := Lib.hid (put6_ BZ.out (.string x0) (.string x1) (.int .i64 x2) (.bool x3) (.string x4) (.slice Ax x5.length cx))
          have HX' := Lib.hid (R_far6 (b0 := .string x0) (b1 := .string x1) (b2 := .int .i64 x2) (b3 := .bool x3) (b4 := .string x4) (b5 := .slice Ax x5.length cx) HX.out (fun _ h => h))
          have HB' := Lib.hid (below_six HB.out ZB.out (.string x0) (.string x1) (.int .i64 x2) (.bool x3) (.string x4) (.slice Ax x5.length cx))
          clear c60 c61 c62 c63 c64 c65 f60 f61 f62 f63 f64 f65
          clear BT BZ HX HB
          have BT := BT'
          have BZ := BZ'
          have HX := HX'
          have HB := HB'
          clear BT' BZ' HX' HB'
          refine hK.out _ _ ⟨(blk_cell BT.out 0).trans rfl, (blk_cell BT.out 3).trans rfl, (blk_cell BT.out 4).trans rfl⟩ (fun hHeld => ?_)
          clear hK K
          refine pure_ (i := 16) (N := some 4) (v := ?_) (a' := ?_) #[true, true, true, true, true, true, true, true, true, true, true, true, true, true, true, true, true, false] rfl rfl (any_of HT_.out (by kernel_rfl)) (fun _ _ _ h => h) (Or.inl ⟨by rfl, ?_⟩) ?_ ?_
          rotate_left
          · intro w'
            go_simp
            with_reducible rfl
          rotate_left
          · simp only [Act.put, List.setIfInBounds_toArray, List.set_cons_zero, List.set_cons_succ, i64_w, i32_w]
            rfl
          refine pure_ (i := 17) (N := some 5) (v := ?_) (a' := ?_) #[true, true, true, true, true, true, true, true, true, true, true, true, true, true, true, true, true, true] rfl rfl (any_of HT_.out (by kernel_rfl)) (fun _ _ _ h => h) (Or.inl ⟨by rfl, ?_⟩) ?_ ?_
          rotate_left
          · intro w'
            go_simp
            with_reducible rfl
          rotate_left
          · simp only [Act.put, List.setIfInBounds_toArray, List.set_cons_zero, List.set_cons_succ, i64_w, i32_w]
            rfl
          refine done_ (done_of HT_.out (by kernel_rfl)) ?_
          try go_wp2_with (fail)
          go_meet
          case rel => exact ⟨z, Ax, cx, rfl, rfl, rfl, BT, BZ, Lib.hid (Kd.R_reads' HX.out).2, HB⟩
      · refine box_step ?hg (N := 3) ?hd (cs := #[.string ⟨#[]⟩, .string ⟨#[]⟩, .int .i64 0, .bool false, .string ⟨#[]⟩, .slice none 0 0]) (t := 40) ?hr ?_; (case hd => rfl); (case hg => rfl); (case hr => first | (go_simp; done) | (go_simp; rfl))
        intro z hz wq hbox hb
        have ZB := Lib.hid (show w.heap.size ≤ z by rw [hz]; exact HB.out.size)
        have NT := Lib.hid (show b ≠ z by rw [hz]; have := blk_lt BT.out; omega)
        have NZ := Lib.hid (show z ≠ g by rw [hz]; have := GL.out; omega)
        have BT' := Lib.hid (blk_below BT.out hb)
        have HB' := Lib.hid (below_step HB.out hb)
        have HE' := Lib.hid (Kd.R_below HE.out hb)
        have GL' := Lib.hid (Nat.lt_of_lt_of_le GL.out hb.size)
        clear BT HB HE GL
        have BT := BT'
        have HB := HB'
        have HE := HE'
        have GL := GL'
        clear BT' HB' HE' GL'
        have BZ := Lib.hid hbox
        clear hz hbox hb
        refine hK.out _ _ ⟨(blk_cell BT.out 0).trans rfl, (blk_cell BT.out 3).trans rfl, (blk_cell BT.out 4).trans rfl⟩ (fun hHeld => ?_)
        clear hK K
        refine norm_ (a' := ?_) ?_ ?_
        rotate_left
        · show Act.put _ (some 3) _ = _
          simp only [Act.put, List.setIfInBounds_toArray, List.set_cons_zero, List.set_cons_succ, i64_w, i32_w]
          rfl
        refine one_ (i := 2) (N := some 20) #[true, true, true, true, true, true, true, true, false, false, false, false, false, false, true, false, false, false] rfl rfl (one_of HT_.out (by kernel_rfl)) (by decide) (fun K hK => ?_)
        refine goes_ Tryz.func15 (by kernel_rfl) rfl #[.slice A0 l0.length c0] (by rfl) rfl rfl (by first | rfl | ((try simp only [List.map_toArray, List.map_cons, List.map_nil]); first | done | rfl | (simp only [List.length_drop, List.length_take]; rfl))) ?_
        with_reducible refine (wicketlaw11_copied.calls k _ _ l0 c _ (Kd.C_below HR.out HB.out) HC.out K1.out).mono ?_
        rintro e wq ⟨vc, rfl, hS, hb⟩
        refine ⟨_, rfl, ?_⟩
        obtain ⟨Ac, cc, rfl⟩ := Kd.S_slice hS
        have HS' := Lib.hid (Kd.S_lower (Kd.S_mono (Kd.S_bound hS) (ok' := fun q => q ≠ g) (fun q hq => by have := hq.2.1; have := GL.out; omega)) HB.out.size)
        have BT' := Lib.hid (blk_below BT.out hb)
        have HB' := Lib.hid (below_step HB.out hb)
        have HE' := Lib.hid (Kd.R_below HE.out hb)
        have BZ' := Lib.hid (blk_below BZ.out hb)
        have GL' := Lib.hid (Nat.lt_of_lt_of_le GL.out hb.size)
        clear BT HB HE BZ GL
        have BT := BT'
        have HB := HB'
        have HE := HE'
        have BZ := BZ'
        have GL := GL'
        clear BT' HB' HE' BZ' GL'
        have HS := HS'
        clear HS' hS hb
        refine hK.out _ _ ⟨(blk_cell BT.out 0).trans rfl, (blk_cell BT.out 3).trans rfl, (blk_cell BT.out 4).trans rfl⟩ (fun hHeld => ?_)
        clear hK K
        refine norm_ (a' := ?_) ?_ ?_
        rotate_left
        · show Act.put _ (some 20) _ = _
          simp only [Act.put, List.setIfInBounds_toArray, List.set_cons_zero, List.set_cons_succ, i64_w, i32_w]
          rfl
        refine one_ (i := 8) (N := some 26) #[true, true, true, true, true, true, true, true, true, false, false, false, false, false, true, false, false, false] rfl rfl (one_of HT_.out (by kernel_rfl)) (by decide) (fun K hK => ?_)
        refine Kd.R_append_rows_step k68 (w0 := w) w.heap.size rfl (.tmp 23) (.tmp 25) 60 68 (.agg #[(.string ⟨#[]⟩), (.string ⟨#[]⟩)]) 32 rfl Tryz.underlying60 info68 rfl (by decide) (by omega) (.slice (some ⟨g, 0, none⟩) 0 0) [] l2 A4 l2.length c4 (fun _ => True) (fun _ => False) rfl rfl HE.out (Kd.C_below HQ.out HB.out) (fun _ _ h => h) (fun _ h => h.elim) (fun _ _ => trivial) HB.out HB.out.size (by have := KP.out; simp; omega) ?_
        intro vp wq ho hb hg hat
        clear hat
        rw [List.nil_append] at ho
        obtain ⟨Ap, cp, rfl⟩ := Kd.R_slice ho
        have BT' := Lib.hid (blk_grown BT.out hg (fun e => NB.out (Option.some.inj e)))
        have HS' := Lib.hid (Kd.S_step HS.out (fun q hq hlt => hg.block q hlt (fun e => hq (Option.some.inj e))))
        have HB' := Lib.hid hb
        have BZ' := Lib.hid (blk_grown BZ.out hg (fun e => NZ.out (Option.some.inj e)))
        clear BT HS HB BZ
        have BT := BT'
        have HS := HS'
        have HB := HB'
        have BZ := BZ'
        clear BT' HS' HB' BZ'
        have HP := Lib.hid ho
        clear HE GL ho hb hg
        refine hK.out _ _ ⟨(blk_cell BT.out 0).trans rfl, (blk_cell BT.out 3).trans rfl, (blk_cell BT.out 4).trans rfl⟩ (fun hHeld => ?_)
        clear hK K
        refine norm_ (a' := ?_) ?_ ?_
        rotate_left
        · show Act.put _ (some 26) _ = _
          simp only [Act.put, List.setIfInBounds_toArray, List.set_cons_zero, List.set_cons_succ, i64_w, i32_w]
          rfl
        refine one_ (i := 9) (N := some 27) #[true, true, true, true, true, true, true, true, true, true, false, false, false, false, true, false, false, false] rfl rfl (one_of HT_.out (by kernel_rfl)) (by decide) (fun K hK => ?_)
        refine goes_ Tryz.func34 (by kernel_rfl) rfl #[.slice Ac c.length cc, .string a1, .slice Ap l2.length cp] (by rfl) rfl rfl (by first | rfl | ((try simp only [List.map_toArray, List.map_cons, List.map_nil]); first | done | rfl | (simp only [List.length_drop, List.length_take]; rfl))) ?_
        refine (KA.out _ Ac Ap cc cp HB.out (Kd.S_reads' HS.out).2.2 (Kd.S_reads' HS.out).2.1 (Kd.R_reads' HP.out).2.2 (Kd.R_reads' HP.out).2.1).mono ?_
        rintro e wq ⟨vx, rfl, hX, hb⟩
        refine ⟨_, rfl, ?_⟩
        obtain ⟨Ax, cx, rfl⟩ := Kd.R_slice hX
        have HX := Lib.hid (Kd.R_lower (Kd.R_mono (Kd.R_bound hX) (ok' := fun q => q ≠ z) (fun q hq => by have := hq.2.1; have := blk_lt BZ.out; omega)) HB.out.size)
        have BT' := Lib.hid (blk_below BT.out hb)
        have HB' := Lib.hid (below_step HB.out hb)
        have BZ' := Lib.hid (blk_below BZ.out hb)
        clear BT HB BZ
        have BT := BT'
        have HB := HB'
        have BZ := BZ'
        clear BT' HB' BZ'
        clear hX hb HS HP
        refine hK.out _ _ ⟨(blk_cell BT.out 0).trans rfl, (blk_cell BT.out 3).trans rfl, (blk_cell BT.out 4).trans rfl⟩ (fun hHeld => ?_)
        clear hK K
        refine norm_ (a' := ?_) ?_ ?_
        rotate_left
        · show Act.put _ (some 27) _ = _
          simp only [Act.put, List.setIfInBounds_toArray, List.set_cons_zero, List.set_cons_succ, i64_w, i32_w]
          rfl
        refine pure_ (i := 10) (N := some 17) (v := ?_) (a' := ?_) #[true, true, true, true, true, true, true, true, true, true, true, false, false, false, true, false, false, false] rfl rfl (any_of HT_.out (by kernel_rfl)) (fun _ _ _ h => h) (Or.inl ⟨by rfl, ?_⟩) ?_ ?_
        rotate_left
        · intro w'
          go_simp
          with_reducible rfl
        rotate_left
        · simp only [Act.put, List.setIfInBounds_toArray, List.set_cons_zero, List.set_cons_succ, i64_w, i32_w]
          rfl
        refine pure_ (i := 11) (N := some 28) (v := ?_) (a' := ?_) #[true, true, true, true, true, true, true, true, true, true, true, true, false, false, true, false, false, false] rfl rfl (any_of HT_.out (by kernel_rfl)) (fun _ _ _ h => h) (Or.inl ⟨by rfl, ?_⟩) ?_ ?_
        rotate_left
        · intro w'
          go_simp
          with_reducible rfl
        rotate_left
        · simp only [Act.put, List.setIfInBounds_toArray, List.set_cons_zero, List.set_cons_succ, i64_w, i32_w]
          rfl
        refine pure_ (i := 12) (N := some 29) (v := ?_) (a' := ?_) #[true, true, true, true, true, true, true, true, true, true, true, true, true, false, true, false, false, false] rfl rfl (any_of HT_.out (by kernel_rfl)) (fun _ _ _ h => h) (Or.inl ⟨by rfl, ?_⟩) ?_ ?_
        rotate_left
        · intro w'
          go_simp
          with_reducible rfl
        rotate_left
        · simp only [Act.put, List.setIfInBounds_toArray, List.set_cons_zero, List.set_cons_succ, i64_w, i32_w]
          rfl
        refine pure_ (i := 13) (N := some 30) (v := ?_) (a' := ?_) #[true, true, true, true, true, true, true, true, true, true, true, true, true, true, true, false, false, false] rfl rfl (any_of HT_.out (by kernel_rfl)) (fun _ _ _ h => h) (Or.inl ⟨by rfl, ?_⟩) ?_ ?_
        rotate_left
        · intro w'
          go_simp
          with_reducible rfl
        rotate_left
        · simp only [Act.put, List.setIfInBounds_toArray, List.set_cons_zero, List.set_cons_succ, i64_w, i32_w]
          rfl
        refine one_ (i := 15) (N := none) #[true, true, true, true, true, true, true, true, true, true, true, true, true, true, true, true, false, false] rfl rfl (one_of HT_.out (by kernel_rfl)) (by decide) (fun K hK => ?_)
        obtain ⟨c60, c61, c62, c63, c64, c65, f60, f61, f62, f63, f64, f65⟩ := cz6_ BZ.out
        refine skip_ (w1 := ?_) rfl rfl ?_ ?_
        rotate_left
        · go_simp
          rfl
        have BT' := Lib.hid (far6_ BT.out NT.out (.string x0) (.string x1) (.int .i64 x2) (.bool x3) (.string x4) (.slice Ax x5.length cx))
        have BZ' := Lib.hid (put6_ BZ.out (.string x0) (.string x1) (.int .i64 x2) (.bool x3) (.string x4) (.slice Ax x5.length cx))
        have HX' := Lib.hid (R_far6 (b0 := .string x0) (b1 := .string x1) (b2 := .int .i64 x2) (b3 := .bool x3) (b4 := .string x4) (b5 := .slice Ax x5.length cx) HX.out (fun _ h => h))
        have HB' := Lib.hid (below_six HB.out ZB.out (.string x0) (.string x1) (.int .i64 x2) (.bool x3) (.string x4) (.slice Ax x5.length cx))
        clear c60 c61 c62 c63 c64 c65 f60 f61 f62 f63 f64 f65
        clear BT BZ HX HB
        have BT := BT'
        have BZ := BZ'
        have HX := HX'
        have HB := HB'
        clear BT' BZ' HX' HB'
        refine hK.out _ _ ⟨(blk_cell BT.out 0).trans rfl, (blk_cell BT.out 3).trans rfl, (blk_cell BT.out 4).trans rfl⟩ (fun hHeld => ?_)
        clear hK K
        refine pure_ (i := 16) (N := some 4) (v := ?_) (a' := ?_) #[true, true, true, true, true, true, true, true, true, true, true, true, true, true, true, true, true, false] rfl rfl (any_of HT_.out (by kernel_rfl)) (fun _ _ _ h => h) (Or.inl ⟨by rfl, ?_⟩) ?_ ?_
        rotate_left
        · intro w'
          go_simp
          with_reducible rfl
        rotate_left
        · simp only [Act.put, List.setIfInBounds_toArray, List.set_cons_zero, List.set_cons_succ, i64_w, i32_w]
          rfl
        refine pure_ (i := 17) (N := some 5) (v := ?_) (a' := ?_) #[true, true, true, true, true, true, true, true, true, true, true, true, true, true, true, true, true, true] rfl rfl (any_of HT_.out (by kernel_rfl)) (fun _ _ _ h => h) (Or.inl ⟨by rfl, ?_⟩) ?_ ?_
        rotate_left
        · intro w'
          go_simp
          with_reducible rfl
        rotate_left
        · simp only [Act.put, List.setIfInBounds_toArray, List.set_cons_zero, List.set_cons_succ, i64_w, i32_w]
          rfl
        refine done_ (done_of HT_.out (by kernel_rfl)) ?_
        try go_wp2_with (fail)
        go_meet
        case rel => exact ⟨z, Ax, cx, rfl, rfl, rfl, BT, BZ, Lib.hid (Kd.R_reads' HX.out).2, HB⟩
    · refine box_step ?hg (N := 3) ?hd (cs := #[.string ⟨#[]⟩, .string ⟨#[]⟩, .int .i64 0, .bool false, .string ⟨#[]⟩, .slice none 0 0]) (t := 40) ?hr ?_; (case hd => rfl); (case hg => rfl); (case hr => first | (go_simp; done) | (go_simp; rfl))
      intro z hz wq hbox hb
      have ZB := Lib.hid (show w.heap.size ≤ z by rw [hz]; exact HB.out.size)
      have NT := Lib.hid (show b ≠ z by rw [hz]; have := blk_lt BT.out; omega)
      have BT' := Lib.hid (blk_below BT.out hb)
      have HB' := Lib.hid (below_step HB.out hb)
      clear BT HB
      have BT := BT'
      have HB := HB'
      clear BT' HB'
      have BZ := Lib.hid hbox
      clear hz hbox hb
      refine hK.out _ _ ⟨(blk_cell BT.out 0).trans rfl, (blk_cell BT.out 3).trans rfl, (blk_cell BT.out 4).trans rfl⟩ (fun hHeld => ?_)
      clear hK K
      refine norm_ (a' := ?_) ?_ ?_
      rotate_left
      · show Act.put _ (some 3) _ = _
        simp only [Act.put, List.setIfInBounds_toArray, List.set_cons_zero, List.set_cons_succ, i64_w, i32_w]
        rfl
      refine two_ (i := 2) (j := 5) (Ni := some 20) (Nj := some 23) #[true, true, true, true, true, false, true, true, false, false, false, false, false, false, true, false, false, false] #[true, true, false, true, true, true, true, true, false, false, false, false, false, false, true, false, false, false] rfl rfl rfl rfl (two_of HT_.out (by kernel_rfl)) (by decide) (by decide) (fun K hK => ?_) (fun K hK => ?_)
      · refine goes_ Tryz.func15 (by kernel_rfl) rfl #[.slice A0 l0.length c0] (by rfl) rfl rfl (by first | rfl | ((try simp only [List.map_toArray, List.map_cons, List.map_nil]); first | done | rfl | (simp only [List.length_drop, List.length_take]; rfl))) ?_
        with_reducible refine (wicketlaw11_copied.calls k _ _ l0 c _ (Kd.C_below HR.out HB.out) HC.out K1.out).mono ?_
        rintro e wq ⟨vc, rfl, hS, hb⟩
        refine ⟨_, rfl, ?_⟩
        obtain ⟨Ac, cc, rfl⟩ := Kd.S_slice hS
        have HS' := Lib.hid (Kd.S_lower hS HB.out.size)
        have BT' := Lib.hid (blk_below BT.out hb)
        have HB' := Lib.hid (below_step HB.out hb)
        have BZ' := Lib.hid (blk_below BZ.out hb)
        clear BT HB BZ
        have BT := BT'
        have HB := HB'
        have BZ := BZ'
        clear BT' HB' BZ'
        have HS := HS'
        clear HS' hS hb
        refine hK.out _ _ ⟨(blk_cell BT.out 0).trans rfl, (blk_cell BT.out 3).trans rfl, (blk_cell BT.out 4).trans rfl⟩ (fun hHeld => ?_)
        clear hK K
        refine norm_ (a' := ?_) ?_ ?_
        rotate_left
        · show Act.put _ (some 20) _ = _
          simp only [Act.put, List.setIfInBounds_toArray, List.set_cons_zero, List.set_cons_succ, i64_w, i32_w]
          rfl
        refine one_ (i := 5) (N := some 23) #[true, true, true, true, true, true, true, true, false, false, false, false, false, false, true, false, false, false] rfl rfl (one_of HT_.out (by kernel_rfl)) (by decide) (fun K hK => ?_)
        refine lit_step rfl ?hr ?_; (case hr => first | (go_simp; done) | (go_simp; rfl))
        intro g hg wq hE hb
        have GB := Lib.hid (show w.heap.size ≤ g by rw [hg]; exact HB.out.size)
        have NB := Lib.hid (show b ≠ g by rw [hg]; have := blk_lt BT.out; omega)
        have GL := Lib.hid (show g < wq.heap.size from hE.1)
        have HE := Lib.hid (hE.2 w.heap.size GB.out)
        have NZ := Lib.hid (show z ≠ g by rw [hg]; have := blk_lt BZ.out; omega)
        have BT' := Lib.hid (blk_below BT.out hb)
        have HB' := Lib.hid (below_step HB.out hb)
        have BZ' := Lib.hid (blk_below BZ.out hb)
        have HS' := Lib.hid (Kd.S_below (Kd.S_mono (Kd.S_bound HS.out) (ok' := fun q => q ≠ g) (fun q hq => by have := hq.2.2.1; omega)) hb)
        clear BT HB BZ HS
        have BT := BT'
        have HB := HB'
        have BZ := BZ'
        have HS := HS'
        clear BT' HB' BZ' HS'
        clear hg hE hb
        refine hK.out _ _ ⟨(blk_cell BT.out 0).trans rfl, (blk_cell BT.out 3).trans rfl, (blk_cell BT.out 4).trans rfl⟩ (fun hHeld => ?_)
        clear hK K
        refine norm_ (a' := ?_) ?_ ?_
        rotate_left
        · show Act.put _ (some 23) _ = _
          simp only [Act.put, List.setIfInBounds_toArray, List.set_cons_zero, List.set_cons_succ, i64_w, i32_w]
          rfl
        refine one_ (i := 8) (N := some 26) #[true, true, true, true, true, true, true, true, true, false, false, false, false, false, true, false, false, false] rfl rfl (one_of HT_.out (by kernel_rfl)) (by decide) (fun K hK => ?_)
        refine Kd.R_append_rows_step k68 (w0 := w) w.heap.size rfl (.tmp 23) (.tmp 25) 60 68 (.agg #[(.string ⟨#[]⟩), (.string ⟨#[]⟩)]) 32 rfl Tryz.underlying60 info68 rfl (by decide) (by omega) (.slice (some ⟨g, 0, none⟩) 0 0) [] l2 A4 l2.length c4 (fun _ => True) (fun _ => False) rfl rfl HE.out (Kd.C_below HQ.out HB.out) (fun _ _ h => h) (fun _ h => h.elim) (fun _ _ => trivial) HB.out HB.out.size (by have := KP.out; simp; omega) ?_
        intro vp wq ho hb hg hat
        clear hat
        rw [List.nil_append] at ho
        obtain ⟨Ap, cp, rfl⟩ := Kd.R_slice ho
        have BT' := Lib.hid (blk_grown BT.out hg (fun e => NB.out (Option.some.inj e)))
        have HS' := Lib.hid (Kd.S_step HS.out (fun q hq hlt => hg.block q hlt (fun e => hq (Option.some.inj e))))
        have HB' := Lib.hid hb
        have BZ' := Lib.hid (blk_grown BZ.out hg (fun e => NZ.out (Option.some.inj e)))
        clear BT HS HB BZ
        have BT := BT'
        have HS := HS'
        have HB := HB'
        have BZ := BZ'
        clear BT' HS' HB' BZ'
        have HP := Lib.hid ho
        clear HE GL ho hb hg
        refine hK.out _ _ ⟨(blk_cell BT.out 0).trans rfl, (blk_cell BT.out 3).trans rfl, (blk_cell BT.out 4).trans rfl⟩ (fun hHeld => ?_)
        clear hK K
        refine norm_ (a' := ?_) ?_ ?_
        rotate_left
        · show Act.put _ (some 26) _ = _
          simp only [Act.put, List.setIfInBounds_toArray, List.set_cons_zero, List.set_cons_succ, i64_w, i32_w]
          rfl
        refine one_ (i := 9) (N := some 27) #[true, true, true, true, true, true, true, true, true, true, false, false, false, false, true, false, false, false] rfl rfl (one_of HT_.out (by kernel_rfl)) (by decide) (fun K hK => ?_)
        refine goes_ Tryz.func34 (by kernel_rfl) rfl #[.slice Ac c.length cc, .string a1, .slice Ap l2.length cp] (by rfl) rfl rfl (by first | rfl | ((try simp only [List.map_toArray, List.map_cons, List.map_nil]); first | done | rfl | (simp only [List.length_drop, List.length_take]; rfl))) ?_
        refine (KA.out _ Ac Ap cc cp HB.out (Kd.S_reads' HS.out).2.2 (Kd.S_reads' HS.out).2.1 (Kd.R_reads' HP.out).2.2 (Kd.R_reads' HP.out).2.1).mono ?_
        rintro e wq ⟨vx, rfl, hX, hb⟩
        refine ⟨_, rfl, ?_⟩
        obtain ⟨Ax, cx, rfl⟩ := Kd.R_slice hX
        have HX := Lib.hid (Kd.R_lower (Kd.R_mono (Kd.R_bound hX) (ok' := fun q => q ≠ z) (fun q hq => by have := hq.2.1; have := blk_lt BZ.out; omega)) HB.out.size)
        have BT' := Lib.hid (blk_below BT.out hb)
        have HB' := Lib.hid (below_step HB.out hb)
        have BZ' := Lib.hid (blk_below BZ.out hb)
        clear BT HB BZ
        have BT := BT'
        have HB := HB'
        have BZ := BZ'
        clear BT' HB' BZ'
        clear hX hb HS HP
        refine hK.out _ _ ⟨(blk_cell BT.out 0).trans rfl, (blk_cell BT.out 3).trans rfl, (blk_cell BT.out 4).trans rfl⟩ (fun hHeld => ?_)
        clear hK K
        refine norm_ (a' := ?_) ?_ ?_
        rotate_left
        · show Act.put _ (some 27) _ = _
          simp only [Act.put, List.setIfInBounds_toArray, List.set_cons_zero, List.set_cons_succ, i64_w, i32_w]
          rfl
        refine pure_ (i := 10) (N := some 17) (v := ?_) (a' := ?_) #[true, true, true, true, true, true, true, true, true, true, true, false, false, false, true, false, false, false] rfl rfl (any_of HT_.out (by kernel_rfl)) (fun _ _ _ h => h) (Or.inl ⟨by rfl, ?_⟩) ?_ ?_
        rotate_left
        · intro w'
          go_simp
          with_reducible rfl
        rotate_left
        · simp only [Act.put, List.setIfInBounds_toArray, List.set_cons_zero, List.set_cons_succ, i64_w, i32_w]
          rfl
        refine pure_ (i := 11) (N := some 28) (v := ?_) (a' := ?_) #[true, true, true, true, true, true, true, true, true, true, true, true, false, false, true, false, false, false] rfl rfl (any_of HT_.out (by kernel_rfl)) (fun _ _ _ h => h) (Or.inl ⟨by rfl, ?_⟩) ?_ ?_
        rotate_left
        · intro w'
          go_simp
          with_reducible rfl
        rotate_left
        · simp only [Act.put, List.setIfInBounds_toArray, List.set_cons_zero, List.set_cons_succ, i64_w, i32_w]
          rfl
        refine pure_ (i := 12) (N := some 29) (v := ?_) (a' := ?_) #[true, true, true, true, true, true, true, true, true, true, true, true, true, false, true, false, false, false] rfl rfl (any_of HT_.out (by kernel_rfl)) (fun _ _ _ h => h) (Or.inl ⟨by rfl, ?_⟩) ?_ ?_
        rotate_left
        · intro w'
          go_simp
          with_reducible rfl
        rotate_left
        · simp only [Act.put, List.setIfInBounds_toArray, List.set_cons_zero, List.set_cons_succ, i64_w, i32_w]
          rfl
        refine pure_ (i := 13) (N := some 30) (v := ?_) (a' := ?_) #[true, true, true, true, true, true, true, true, true, true, true, true, true, true, true, false, false, false] rfl rfl (any_of HT_.out (by kernel_rfl)) (fun _ _ _ h => h) (Or.inl ⟨by rfl, ?_⟩) ?_ ?_
        rotate_left
        · intro w'
          go_simp
          with_reducible rfl
        rotate_left
        · simp only [Act.put, List.setIfInBounds_toArray, List.set_cons_zero, List.set_cons_succ, i64_w, i32_w]
          rfl
        refine one_ (i := 15) (N := none) #[true, true, true, true, true, true, true, true, true, true, true, true, true, true, true, true, false, false] rfl rfl (one_of HT_.out (by kernel_rfl)) (by decide) (fun K hK => ?_)
        obtain ⟨c60, c61, c62, c63, c64, c65, f60, f61, f62, f63, f64, f65⟩ := cz6_ BZ.out
        refine skip_ (w1 := ?_) rfl rfl ?_ ?_
        rotate_left
        · go_simp
          rfl
        have BT' := Lib.hid (far6_ BT.out NT.out (.string x0) (.string x1) (.int .i64 x2) (.bool x3) (.string x4) (.slice Ax x5.length cx))
        have BZ' := Lib.hid (put6_ BZ.out (.string x0) (.string x1) (.int .i64 x2) (.bool x3) (.string x4) (.slice Ax x5.length cx))
        have HX' := Lib.hid (R_far6 (b0 := .string x0) (b1 := .string x1) (b2 := .int .i64 x2) (b3 := .bool x3) (b4 := .string x4) (b5 := .slice Ax x5.length cx) HX.out (fun _ h => h))
        have HB' := Lib.hid (below_six HB.out ZB.out (.string x0) (.string x1) (.int .i64 x2) (.bool x3) (.string x4) (.slice Ax x5.length cx))
        clear c60 c61 c62 c63 c64 c65 f60 f61 f62 f63 f64 f65
        clear BT BZ HX HB
        have BT := BT'
        have BZ := BZ'
        have HX := HX'
        have HB := HB'
        clear BT' BZ' HX' HB'
        refine hK.out _ _ ⟨(blk_cell BT.out 0).trans rfl, (blk_cell BT.out 3).trans rfl, (blk_cell BT.out 4).trans rfl⟩ (fun hHeld => ?_)
        clear hK K
        refine pure_ (i := 16) (N := some 4) (v := ?_) (a' := ?_) #[true, true, true, true, true, true, true, true, true, true, true, true, true, true, true, true, true, false] rfl rfl (any_of HT_.out (by kernel_rfl)) (fun _ _ _ h => h) (Or.inl ⟨by rfl, ?_⟩) ?_ ?_
        rotate_left
        · intro w'
          go_simp
          with_reducible rfl
        rotate_left
        · simp only [Act.put, List.setIfInBounds_toArray, List.set_cons_zero, List.set_cons_succ, i64_w, i32_w]
          rfl
        refine pure_ (i := 17) (N := some 5) (v := ?_) (a' := ?_) #[true, true, true, true, true, true, true, true, true, true, true, true, true, true, true, true, true, true] rfl rfl (any_of HT_.out (by kernel_rfl)) (fun _ _ _ h => h) (Or.inl ⟨by rfl, ?_⟩) ?_ ?_
        rotate_left
        · intro w'
          go_simp
          with_reducible rfl
        rotate_left
        · simp only [Act.put, List.setIfInBounds_toArray, List.set_cons_zero, List.set_cons_succ, i64_w, i32_w]
          rfl
        refine done_ (done_of HT_.out (by kernel_rfl)) ?_
        try go_wp2_with (fail)
        go_meet
        case rel => exact ⟨z, Ax, cx, rfl, rfl, rfl, BT, BZ, Lib.hid (Kd.R_reads' HX.out).2, HB⟩
      · refine lit_step rfl ?hr ?_; (case hr => first | (go_simp; done) | (go_simp; rfl))
        intro g hg wq hE hb
        have GB := Lib.hid (show w.heap.size ≤ g by rw [hg]; exact HB.out.size)
        have NB := Lib.hid (show b ≠ g by rw [hg]; have := blk_lt BT.out; omega)
        have GL := Lib.hid (show g < wq.heap.size from hE.1)
        have HE := Lib.hid (hE.2 w.heap.size GB.out)
        have NZ := Lib.hid (show z ≠ g by rw [hg]; have := blk_lt BZ.out; omega)
        have BT' := Lib.hid (blk_below BT.out hb)
        have HB' := Lib.hid (below_step HB.out hb)
        have BZ' := Lib.hid (blk_below BZ.out hb)
        clear BT HB BZ
        have BT := BT'
        have HB := HB'
        have BZ := BZ'
        clear BT' HB' BZ'
        clear hg hE hb
        refine hK.out _ _ ⟨(blk_cell BT.out 0).trans rfl, (blk_cell BT.out 3).trans rfl, (blk_cell BT.out 4).trans rfl⟩ (fun hHeld => ?_)
        clear hK K
        refine norm_ (a' := ?_) ?_ ?_
        rotate_left
        · show Act.put _ (some 23) _ = _
          simp only [Act.put, List.setIfInBounds_toArray, List.set_cons_zero, List.set_cons_succ, i64_w, i32_w]
          rfl
        refine one_ (i := 2) (N := some 20) #[true, true, true, true, true, true, true, true, false, false, false, false, false, false, true, false, false, false] rfl rfl (one_of HT_.out (by kernel_rfl)) (by decide) (fun K hK => ?_)
        refine goes_ Tryz.func15 (by kernel_rfl) rfl #[.slice A0 l0.length c0] (by rfl) rfl rfl (by first | rfl | ((try simp only [List.map_toArray, List.map_cons, List.map_nil]); first | done | rfl | (simp only [List.length_drop, List.length_take]; rfl))) ?_
        with_reducible refine (wicketlaw11_copied.calls k _ _ l0 c _ (Kd.C_below HR.out HB.out) HC.out K1.out).mono ?_
        rintro e wq ⟨vc, rfl, hS, hb⟩
        refine ⟨_, rfl, ?_⟩
        obtain ⟨Ac, cc, rfl⟩ := Kd.S_slice hS
        have HS' := Lib.hid (Kd.S_lower (Kd.S_mono (Kd.S_bound hS) (ok' := fun q => q ≠ g) (fun q hq => by have := hq.2.1; have := GL.out; omega)) HB.out.size)
        have BT' := Lib.hid (blk_below BT.out hb)
        have HB' := Lib.hid (below_step HB.out hb)
        have HE' := Lib.hid (Kd.R_below HE.out hb)
        have BZ' := Lib.hid (blk_below BZ.out hb)
        have GL' := Lib.hid (Nat.lt_of_lt_of_le GL.out hb.size)
        clear BT HB HE BZ GL
        have BT := BT'
        have HB := HB'
        have HE := HE'
        have BZ := BZ'
        have GL := GL'
        clear BT' HB' HE' BZ' GL'
        have HS := HS'
        clear HS' hS hb
        refine hK.out _ _ ⟨(blk_cell BT.out 0).trans rfl, (blk_cell BT.out 3).trans rfl, (blk_cell BT.out 4).trans rfl⟩ (fun hHeld => ?_)
        clear hK K
        refine norm_ (a' := ?_) ?_ ?_
        rotate_left
        · show Act.put _ (some 20) _ = _
          simp only [Act.put, List.setIfInBounds_toArray, List.set_cons_zero, List.set_cons_succ, i64_w, i32_w]
          rfl
        refine one_ (i := 8) (N := some 26) #[true, true, true, true, true, true, true, true, true, false, false, false, false, false, true, false, false, false] rfl rfl (one_of HT_.out (by kernel_rfl)) (by decide) (fun K hK => ?_)
        refine Kd.R_append_rows_step k68 (w0 := w) w.heap.size rfl (.tmp 23) (.tmp 25) 60 68 (.agg #[(.string ⟨#[]⟩), (.string ⟨#[]⟩)]) 32 rfl Tryz.underlying60 info68 rfl (by decide) (by omega) (.slice (some ⟨g, 0, none⟩) 0 0) [] l2 A4 l2.length c4 (fun _ => True) (fun _ => False) rfl rfl HE.out (Kd.C_below HQ.out HB.out) (fun _ _ h => h) (fun _ h => h.elim) (fun _ _ => trivial) HB.out HB.out.size (by have := KP.out; simp; omega) ?_
        intro vp wq ho hb hg hat
        clear hat
        rw [List.nil_append] at ho
        obtain ⟨Ap, cp, rfl⟩ := Kd.R_slice ho
        have BT' := Lib.hid (blk_grown BT.out hg (fun e => NB.out (Option.some.inj e)))
        have HS' := Lib.hid (Kd.S_step HS.out (fun q hq hlt => hg.block q hlt (fun e => hq (Option.some.inj e))))
        have HB' := Lib.hid hb
        have BZ' := Lib.hid (blk_grown BZ.out hg (fun e => NZ.out (Option.some.inj e)))
        clear BT HS HB BZ
        have BT := BT'
        have HS := HS'
        have HB := HB'
        have BZ := BZ'
        clear BT' HS' HB' BZ'
        have HP := Lib.hid ho
        clear HE GL ho hb hg
        refine hK.out _ _ ⟨(blk_cell BT.out 0).trans rfl, (blk_cell BT.out 3).trans rfl, (blk_cell BT.out 4).trans rfl⟩ (fun hHeld => ?_)
        clear hK K
        refine norm_ (a' := ?_) ?_ ?_
        rotate_left
        · show Act.put _ (some 26) _ = _
          simp only [Act.put, List.setIfInBounds_toArray, List.set_cons_zero, List.set_cons_succ, i64_w, i32_w]
          rfl
        refine one_ (i := 9) (N := some 27) #[true, true, true, true, true, true, true, true, true, true, false, false, false, false, true, false, false, false] rfl rfl (one_of HT_.out (by kernel_rfl)) (by decide) (fun K hK => ?_)
        refine goes_ Tryz.func34 (by kernel_rfl) rfl #[.slice Ac c.length cc, .string a1, .slice Ap l2.length cp] (by rfl) rfl rfl (by first | rfl | ((try simp only [List.map_toArray, List.map_cons, List.map_nil]); first | done | rfl | (simp only [List.length_drop, List.length_take]; rfl))) ?_
        refine (KA.out _ Ac Ap cc cp HB.out (Kd.S_reads' HS.out).2.2 (Kd.S_reads' HS.out).2.1 (Kd.R_reads' HP.out).2.2 (Kd.R_reads' HP.out).2.1).mono ?_
        rintro e wq ⟨vx, rfl, hX, hb⟩
        refine ⟨_, rfl, ?_⟩
        obtain ⟨Ax, cx, rfl⟩ := Kd.R_slice hX
        have HX := Lib.hid (Kd.R_lower (Kd.R_mono (Kd.R_bound hX) (ok' := fun q => q ≠ z) (fun q hq => by have := hq.2.1; have := blk_lt BZ.out; omega)) HB.out.size)
        have BT' := Lib.hid (blk_below BT.out hb)
        have HB' := Lib.hid (below_step HB.out hb)
        have BZ' := Lib.hid (blk_below BZ.out hb)
        clear BT HB BZ
        have BT := BT'
        have HB := HB'
        have BZ := BZ'
        clear BT' HB' BZ'
        clear hX hb HS HP
        refine hK.out _ _ ⟨(blk_cell BT.out 0).trans rfl, (blk_cell BT.out 3).trans rfl, (blk_cell BT.out 4).trans rfl⟩ (fun hHeld => ?_)
        clear hK K
        refine norm_ (a' := ?_) ?_ ?_
        rotate_left
        · show Act.put _ (some 27) _ = _
          simp only [Act.put, List.setIfInBounds_toArray, List.set_cons_zero, List.set_cons_succ, i64_w, i32_w]
          rfl
        refine pure_ (i := 10) (N := some 17) (v := ?_) (a' := ?_) #[true, true, true, true, true, true, true, true, true, true, true, false, false, false, true, false, false, false] rfl rfl (any_of HT_.out (by kernel_rfl)) (fun _ _ _ h => h) (Or.inl ⟨by rfl, ?_⟩) ?_ ?_
        rotate_left
        · intro w'
          go_simp
          with_reducible rfl
        rotate_left
        · simp only [Act.put, List.setIfInBounds_toArray, List.set_cons_zero, List.set_cons_succ, i64_w, i32_w]
          rfl
        refine pure_ (i := 11) (N := some 28) (v := ?_) (a' := ?_) #[true, true, true, true, true, true, true, true, true, true, true, true, false, false, true, false, false, false] rfl rfl (any_of HT_.out (by kernel_rfl)) (fun _ _ _ h => h) (Or.inl ⟨by rfl, ?_⟩) ?_ ?_
        rotate_left
        · intro w'
          go_simp
          with_reducible rfl
        rotate_left
        · simp only [Act.put, List.setIfInBounds_toArray, List.set_cons_zero, List.set_cons_succ, i64_w, i32_w]
          rfl
        refine pure_ (i := 12) (N := some 29) (v := ?_) (a' := ?_) #[true, true, true, true, true, true, true, true, true, true, true, true, true, false, true, false, false, false] rfl rfl (any_of HT_.out (by kernel_rfl)) (fun _ _ _ h => h) (Or.inl ⟨by rfl, ?_⟩) ?_ ?_
        rotate_left
        · intro w'
          go_simp
          with_reducible rfl
        rotate_left
        · simp only [Act.put, List.setIfInBounds_toArray, List.set_cons_zero, List.set_cons_succ, i64_w, i32_w]
          rfl
        refine pure_ (i := 13) (N := some 30) (v := ?_) (a' := ?_) #[true, true, true, true, true, true, true, true, true, true, true, true, true, true, true, false, false, false] rfl rfl (any_of HT_.out (by kernel_rfl)) (fun _ _ _ h => h) (Or.inl ⟨by rfl, ?_⟩) ?_ ?_
        rotate_left
        · intro w'
          go_simp
          with_reducible rfl
        rotate_left
        · simp only [Act.put, List.setIfInBounds_toArray, List.set_cons_zero, List.set_cons_succ, i64_w, i32_w]
          rfl
        refine one_ (i := 15) (N := none) #[true, true, true, true, true, true, true, true, true, true, true, true, true, true, true, true, false, false] rfl rfl (one_of HT_.out (by kernel_rfl)) (by decide) (fun K hK => ?_)
        obtain ⟨c60, c61, c62, c63, c64, c65, f60, f61, f62, f63, f64, f65⟩ := cz6_ BZ.out
        refine skip_ (w1 := ?_) rfl rfl ?_ ?_
        rotate_left
        · go_simp
          rfl
        have BT' := Lib.hid (far6_ BT.out NT.out (.string x0) (.string x1) (.int .i64 x2) (.bool x3) (.string x4) (.slice Ax x5.length cx))
        have BZ' := Lib.hid (put6_ BZ.out (.string x0) (.string x1) (.int .i64 x2) (.bool x3) (.string x4) (.slice Ax x5.length cx))
        have HX' := Lib.hid (R_far6 (b0 := .string x0) (b1 := .string x1) (b2 := .int .i64 x2) (b3 := .bool x3) (b4 := .string x4) (b5 := .slice Ax x5.length cx) HX.out (fun _ h => h))
        have HB' := Lib.hid (below_six HB.out ZB.out (.string x0) (.string x1) (.int .i64 x2) (.bool x3) (.string x4) (.slice Ax x5.length cx))
        clear c60 c61 c62 c63 c64 c65 f60 f61 f62 f63 f64 f65
        clear BT BZ HX HB
        have BT := BT'
        have BZ := BZ'
        have HX := HX'
        have HB := HB'
        clear BT' BZ' HX' HB'
        refine hK.out _ _ ⟨(blk_cell BT.out 0).trans rfl, (blk_cell BT.out 3).trans rfl, (blk_cell BT.out 4).trans rfl⟩ (fun hHeld => ?_)
        clear hK K
        refine pure_ (i := 16) (N := some 4) (v := ?_) (a' := ?_) #[true, true, true, true, true, true, true, true, true, true, true, true, true, true, true, true, true, false] rfl rfl (any_of HT_.out (by kernel_rfl)) (fun _ _ _ h => h) (Or.inl ⟨by rfl, ?_⟩) ?_ ?_
        rotate_left
        · intro w'
          go_simp
          with_reducible rfl
        rotate_left
        · simp only [Act.put, List.setIfInBounds_toArray, List.set_cons_zero, List.set_cons_succ, i64_w, i32_w]
          rfl
        refine pure_ (i := 17) (N := some 5) (v := ?_) (a' := ?_) #[true, true, true, true, true, true, true, true, true, true, true, true, true, true, true, true, true, true] rfl rfl (any_of HT_.out (by kernel_rfl)) (fun _ _ _ h => h) (Or.inl ⟨by rfl, ?_⟩) ?_ ?_
        rotate_left
        · intro w'
          go_simp
          with_reducible rfl
        rotate_left
        · simp only [Act.put, List.setIfInBounds_toArray, List.set_cons_zero, List.set_cons_succ, i64_w, i32_w]
          rfl
        refine done_ (done_of HT_.out (by kernel_rfl)) ?_
        try go_wp2_with (fail)
        go_meet
        case rel => exact ⟨z, Ax, cx, rfl, rfl, rfl, BT, BZ, Lib.hid (Kd.R_reads' HX.out).2, HB⟩
  case rest =>
    clear BT HB
    obtain ⟨z, Ax, cx, rfl, rfl, rfl, BT, BZ, HX, HB⟩ := hcut
    go_wp2_with (fail)
    refine (HV.out _).mono ?_
    rintro _ w1 ⟨rfl, hb⟩
    have HX' := Lib.hid (show x5.length ≤ cx ∧ Kd.C Kd.string w1 Ax x5.length x5 from ⟨HX.out.1, Kd.C_below HX.out.2 hb⟩)
    clear HX
    have HX := HX'
    clear HX'
    have BT' := Lib.hid (blk_below BT.out hb)
    have BZ' := Lib.hid (blk_below BZ.out hb)
    have HB' := Lib.hid (below_step HB.out hb)
    clear BT BZ HB
    have BT := BT'
    have BZ := BZ'
    have HB := HB'
    clear BT' BZ' HB'
    clear hb
    by_cases her : er = 0
    · obtain ⟨m, fp, iv, ib, ie, sv, sb, se, nm, sh, f, k2, k3, k5, k6, ko1, ko2, kb, hcase⟩ := KG.out her
      subst her
      have K2 := Lib.hid k2
      have K3 := Lib.hid k3
      have K5 := Lib.hid k5
      have K6 := Lib.hid k6
      have KO1 := Lib.hid ko1
      have KO2 := Lib.hid ko2
      have KBs := Lib.hid kb
      have HCASE := Lib.hid hcase
      clear k2 k3 k5 k6 ko1 ko2 kb hcase KB KG KA K1
      go_upto_region 6 with (go_at_call 19; (with_reducible refine (live_num 0 _).mono ?_); rintro _ w8 ⟨rfl, ⟨nd, rfl⟩⟩)
      have BT' := Lib.hid (blk_drewN BT.out nd)
      have BZ' := Lib.hid (blk_drewN BZ.out nd)
      have HB' := Lib.hid (pw_below_drewN HB.out nd)
      clear BT BZ HB
      have BT := BT'
      have BZ := BZ'
      have HB := HB'
      clear BT' BZ' HB'
      have HX' := Lib.hid (show x5.length ≤ cx ∧ Kd.C Kd.string (w1.drewN nd) Ax x5.length x5 from ⟨HX.out.1, Kd.C_drewN HX.out.2 nd⟩)
      clear HX
      generalize w1.drewN nd = w2 at BT BZ HB HX' ⊢
      have BT2 := BT
      have BZ2 := BZ
      have HX2 := HX'
      have HR2 := Lib.hid (Kd.C_below HR.out HB.out)
      clear BT BZ HX'
      go_cut [6, 7] (fun v6 v7 wc => ∃ (y : Nat) (Ay : Option Addr) (cy : Nat), v6 = .pointer (some ⟨y, 0, none⟩) ∧ v7 = .bool true ∧ Hid (wc.heap[y]? = some (.cells #[.string x0, .string x1, .int .i64 x2, .bool x3, .string x4, .slice Ay x5.length cy] 43 (0, 0))) ∧ Hid (x5.length ≤ cy ∧ Kd.C Kd.string wc Ay x5.length x5) ∧ Hid (Below w2.heap.size w2 wc))
      case first =>
        have HG := Lib.hid (below_drew1 (Below.refl w2.heap.size w2))
        refine start_ (n := 12) (S := fun w' => w'.cell? ⟨b, 0, none⟩ = some (.slice A0 l0.length c0) ∧ w'.cell? ⟨z, 0, none⟩ = some (.string x0)) (ds := []) #[false, false, false, false, false, false, false, false, false, false, false, false] (by kernel_rfl) rfl rfl ⟨(blk_cell (blk_below BT2.out HG.out) 0).trans rfl, (blk_cell (blk_below BZ2.out HG.out) 0).trans rfl⟩ (fun hHeld => ?_); refine with_tabW proofT.tab6 proofT.bits6 (fun HT_ HW_ => ?_)
        generalize World.drew _ = w5 at HG hHeld ⊢
        refine pure_ (i := 0) (N := some 50) (v := ?_) (a' := ?_) #[true, false, false, false, false, false, false, false, false, false, false, false] rfl rfl (any_of HT_.out (by kernel_rfl)) (fun _ _ _ h => h) (Or.inl ⟨by rfl, ?_⟩) ?_ ?_
        rotate_left
        · intro w'
          go_simp
          with_reducible rfl
        rotate_left
        · simp only [Act.put, List.setIfInBounds_toArray, List.set_cons_zero, List.set_cons_succ, i64_w, i32_w]
          rfl
        refine pure_ (i := 3) (N := some 53) (v := ?_) (a' := ?_) #[true, false, false, true, false, false, false, false, false, false, false, false] rfl rfl (any_of HT_.out (by kernel_rfl)) (fun _ _ _ h => h) (Or.inl ⟨by rfl, ?_⟩) ?_ ?_
        rotate_left
        · intro w'
          go_simp
          with_reducible rfl
        rotate_left
        · simp only [Act.put, List.setIfInBounds_toArray, List.set_cons_zero, List.set_cons_succ, i64_w, i32_w]
          rfl
        refine take_ (i := 1) (N := some 51) (v := ?_) (a' := ?_) #[true, true, false, true, false, false, false, false, false, false, false, false] rfl rfl (take_ofW HT_.out HW_.out (by kernel_rfl)) (fun _ _ _ h => h) (Or.inl ⟨by rfl, ?_⟩) hHeld ?_ ?_
        rotate_left
        · rintro w' ⟨s0, s1⟩
          go_simp
          with_reducible rfl
        rotate_left
        · simp only [Act.put, List.setIfInBounds_toArray, List.set_cons_zero, List.set_cons_succ, i64_w, i32_w]
          rfl
        refine take_ (i := 4) (N := some 54) (v := ?_) (a' := ?_) #[true, true, false, true, true, false, false, false, false, false, false, false] rfl rfl (take_ofW HT_.out HW_.out (by kernel_rfl)) (fun _ _ _ h => h) (Or.inl ⟨by rfl, ?_⟩) hHeld ?_ ?_
        rotate_left
        · rintro w' ⟨s0, s1⟩
          go_simp
          with_reducible rfl
        rotate_left
        · simp only [Act.put, List.setIfInBounds_toArray, List.set_cons_zero, List.set_cons_succ, i64_w, i32_w]
          rfl
        refine two_ (i := 2) (j := 9) (Ni := some 52) (Nj := some 6) #[true, true, true, true, true, false, false, false, false, false, false, false] #[true, true, false, true, true, false, false, false, false, true, false, false] rfl rfl rfl rfl (two_of HT_.out (by kernel_rfl)) (by decide) (by decide) (fun K hK => ?_) (fun K hK => ?_)
        · refine goes_ Tryz.func18 (by kernel_rfl) rfl #[.slice A0 l0.length c0] (by rfl) rfl rfl (by first | rfl | ((try simp only [List.map_toArray, List.map_cons, List.map_nil]); first | done | rfl | (simp only [List.length_drop, List.length_take]; rfl))) ?_
          with_reducible refine (wicketlaw11_all.calls k _ _ l0 m _ (Kd.C_below HR2.out HG.out) HC.out K2.out).mono ?_
          rintro e wq ⟨vm, rfl, hM, hb⟩
          refine ⟨_, rfl, ?_⟩
          obtain ⟨Am, cm, rfl⟩ := Kd.S_slice hM
          have HM := Lib.hid hM
          have HG' := Lib.hid (below_step HG.out hb)
          clear HG
          have HG := HG'
          clear HG'
          clear hM hb
          refine hK.out _ _ ⟨(blk_cell (blk_below BT2.out HG.out) 0).trans rfl, (blk_cell (blk_below BZ2.out HG.out) 0).trans rfl⟩ (fun hHeld => ?_)
          clear hK K
          refine norm_ (a' := ?_) ?_ ?_
          rotate_left
          · show Act.put _ (some 52) _ = _
            simp only [Act.put, List.setIfInBounds_toArray, List.set_cons_zero, List.set_cons_succ, i64_w, i32_w]
            rfl
          refine two_ (i := 5) (j := 9) (Ni := some 55) (Nj := some 6) #[true, true, true, true, true, true, false, false, false, false, false, false] #[true, true, true, true, true, false, false, false, false, true, false, false] rfl rfl rfl rfl (two_of HT_.out (by kernel_rfl)) (by decide) (by decide) (fun K hK => ?_) (fun K hK => ?_)
          · refine goes_ Tryz.func30 (by kernel_rfl) rfl #[.slice Am m.length cm, .string x0] (by rfl) rfl rfl (by first | rfl | ((try simp only [List.map_toArray, List.map_cons, List.map_nil]); first | done | rfl | (simp only [List.length_drop, List.length_take]; rfl))) ?_
            refine (wicketref11_Find.calls k (fun _ => True) _ _ m x0 x0 x1 x2 x3 x4 x5 true _ (Kd.S_V (base' := World.heap _ |>.size) HM.out) K3.out).mono ?_
            rintro e wq ⟨vy, rfl, hY, hb⟩
            refine ⟨_, rfl, ?_⟩
            obtain ⟨Ay, cy, rfl⟩ := Kd.V_slice hY
            have HY := Lib.hid hY
            have HG' := Lib.hid (below_step HG.out hb)
            clear HG
            have HG := HG'
            clear HG'
            clear hY hb HM
            refine hK.out _ _ ⟨(blk_cell (blk_below BT2.out HG.out) 0).trans rfl, (blk_cell (blk_below BZ2.out HG.out) 0).trans rfl⟩ (fun hHeld => ?_)
            clear hK K
            refine norm_ (a' := ?_) ?_ ?_
            rotate_left
            · show Act.put _ (some 55) _ = _
              simp only [Act.put, List.setIfInBounds_toArray, List.set_cons_zero, List.set_cons_succ, i64_w, i32_w]
              rfl
            refine pure_ (i := 6) (N := some 49) (v := ?_) (a' := ?_) #[true, true, true, true, true, true, true, false, false, false, false, false] rfl rfl (any_of HT_.out (by kernel_rfl)) (fun _ _ _ h => h) (Or.inl ⟨by rfl, ?_⟩) ?_ ?_
            rotate_left
            · intro w'
              go_simp
              with_reducible rfl
            rotate_left
            · simp only [Act.put, List.setIfInBounds_toArray, List.set_cons_zero, List.set_cons_succ, i64_w, i32_w]
              rfl
            refine pure_ (i := 7) (N := some 56) (v := ?_) (a' := ?_) #[true, true, true, true, true, true, true, true, false, false, false, false] rfl rfl (any_of HT_.out (by kernel_rfl)) (fun _ _ _ h => h) (Or.inl ⟨by rfl, ?_⟩) ?_ ?_
            rotate_left
            · intro w'
              go_simp
              with_reducible rfl
            rotate_left
            · simp only [Act.put, List.setIfInBounds_toArray, List.set_cons_zero, List.set_cons_succ, i64_w, i32_w]
              rfl
            refine pure_ (i := 8) (N := some 57) (v := ?_) (a' := ?_) #[true, true, true, true, true, true, true, true, true, false, false, false] rfl rfl (any_of HT_.out (by kernel_rfl)) (fun _ _ _ h => h) (Or.inl ⟨by rfl, ?_⟩) ?_ ?_
            rotate_left
            · intro w'
              go_simp
              with_reducible rfl
            rotate_left
            · simp only [Act.put, List.setIfInBounds_toArray, List.set_cons_zero, List.set_cons_succ, i64_w, i32_w]
              rfl
            refine one_ (i := 9) (N := some 6) #[true, true, true, true, true, true, true, true, true, true, false, false] rfl rfl (one_of HT_.out (by kernel_rfl)) (by decide) (fun K hK => ?_)
            refine box_step ?hg (N := 6) ?hd (cs := #[.string ⟨#[]⟩, .string ⟨#[]⟩, .int .i64 0, .bool false, .string ⟨#[]⟩, .slice none 0 0]) (t := 43) ?hr ?_; (case hd => rfl); (case hg => rfl); (case hr => first | (go_simp; done) | (go_simp; rfl))
            intro y hz wq hbox hb
            have YB := Lib.hid (show w2.heap.size ≤ y by rw [hz]; exact HG.out.size)
            have HG' := Lib.hid (below_step HG.out hb)
            have HY' := Lib.hid (Kd.V_mono (Kd.V_below (Kd.V_elderB HY.out y (Nat.le_of_eq hz.symm)) hb) (ok' := fun q => q ≠ y) (fun _ hq => hq.2))
            clear HG HY
            have HG := HG'
            have HY := HY'
            clear HG' HY'
            have BY := Lib.hid hbox
            clear hz hbox hb
            refine hK.out _ _ ⟨(blk_cell (blk_below BT2.out HG.out) 0).trans rfl, (blk_cell (blk_below BZ2.out HG.out) 0).trans rfl⟩ (fun hHeld => ?_)
            clear hK K
            refine norm_ (a' := ?_) ?_ ?_
            rotate_left
            · show Act.put _ (some 6) _ = _
              simp only [Act.put, List.setIfInBounds_toArray, List.set_cons_zero, List.set_cons_succ, i64_w, i32_w]
              rfl
            refine one_ (i := 10) (N := none) #[true, true, true, true, true, true, true, true, true, true, true, false] rfl rfl (one_of HT_.out (by kernel_rfl)) (by decide) (fun K hK => ?_)
            obtain ⟨c60, c61, c62, c63, c64, c65, f60, f61, f62, f63, f64, f65⟩ := cz6_ BY.out
            refine skip_ (w1 := ?_) rfl rfl ?_ ?_
            rotate_left
            · go_simp
              rfl
            have BY' := Lib.hid (put6_ BY.out (.string x0) (.string x1) (.int .i64 x2) (.bool x3) (.string x4) (.slice Ay x5.length cy))
            have HY' := Lib.hid (V_far6 (b0 := .string x0) (b1 := .string x1) (b2 := .int .i64 x2) (b3 := .bool x3) (b4 := .string x4) (b5 := .slice Ay x5.length cy) HY.out (fun _ h => h))
            have HG' := Lib.hid (below_six HG.out YB.out (.string x0) (.string x1) (.int .i64 x2) (.bool x3) (.string x4) (.slice Ay x5.length cy))
            clear c60 c61 c62 c63 c64 c65 f60 f61 f62 f63 f64 f65
            clear BY HY HG
            have BY := BY'
            have HY := HY'
            have HG := HG'
            clear BY' HY' HG'
            refine hK.out _ _ ⟨(blk_cell (blk_below BT2.out HG.out) 0).trans rfl, (blk_cell (blk_below BZ2.out HG.out) 0).trans rfl⟩ (fun hHeld => ?_)
            clear hK K
            refine pure_ (i := 11) (N := some 7) (v := ?_) (a' := ?_) #[true, true, true, true, true, true, true, true, true, true, true, true] rfl rfl (any_of HT_.out (by kernel_rfl)) (fun _ _ _ h => h) (Or.inl ⟨by rfl, ?_⟩) ?_ ?_
            rotate_left
            · intro w'
              go_simp
              with_reducible rfl
            rotate_left
            · simp only [Act.put, List.setIfInBounds_toArray, List.set_cons_zero, List.set_cons_succ, i64_w, i32_w]
              rfl
            refine done_ (done_of HT_.out (by kernel_rfl)) ?_
            try go_wp2_with (fail)
            go_meet
            case rel => exact ⟨y, Ay, cy, rfl, rfl, BY, Lib.hid (Kd.V_reads' HY.out).2, HG⟩
          · refine box_step ?hg (N := 6) ?hd (cs := #[.string ⟨#[]⟩, .string ⟨#[]⟩, .int .i64 0, .bool false, .string ⟨#[]⟩, .slice none 0 0]) (t := 43) ?hr ?_; (case hd => rfl); (case hg => rfl); (case hr => first | (go_simp; done) | (go_simp; rfl))
            intro y hz wq hbox hb
            have YB := Lib.hid (show w2.heap.size ≤ y by rw [hz]; exact HG.out.size)
            have HG' := Lib.hid (below_step HG.out hb)
            have HM' := Lib.hid (Kd.S_below (Kd.S_mono (Kd.S_bound HM.out) (ok' := fun q => q ≠ y) (fun q hq => by have := hq.2.2.1; omega)) hb)
            clear HG HM
            have HG := HG'
            have HM := HM'
            clear HG' HM'
            have BY := Lib.hid hbox
            clear hz hbox hb
            refine hK.out _ _ ⟨(blk_cell (blk_below BT2.out HG.out) 0).trans rfl, (blk_cell (blk_below BZ2.out HG.out) 0).trans rfl⟩ (fun hHeld => ?_)
            clear hK K
            refine norm_ (a' := ?_) ?_ ?_
            rotate_left
            · show Act.put _ (some 6) _ = _
              simp only [Act.put, List.setIfInBounds_toArray, List.set_cons_zero, List.set_cons_succ, i64_w, i32_w]
              rfl
            refine one_ (i := 5) (N := some 55) #[true, true, true, true, true, true, false, false, false, true, false, false] rfl rfl (one_of HT_.out (by kernel_rfl)) (by decide) (fun K hK => ?_)
            refine goes_ Tryz.func30 (by kernel_rfl) rfl #[.slice Am m.length cm, .string x0] (by rfl) rfl rfl (by first | rfl | ((try simp only [List.map_toArray, List.map_cons, List.map_nil]); first | done | rfl | (simp only [List.length_drop, List.length_take]; rfl))) ?_
            refine (wicketref11_Find.calls k (fun q => q ≠ y) _ _ m x0 x0 x1 x2 x3 x4 x5 true _ (Kd.S_V (base' := World.heap _ |>.size) HM.out) K3.out).mono ?_
            rintro e wq ⟨vy, rfl, hY, hb⟩
            refine ⟨_, rfl, ?_⟩
            obtain ⟨Ay, cy, rfl⟩ := Kd.V_slice hY
            have HY := Lib.hid (Kd.V_mono hY (ok' := fun q => q ≠ y) (fun q hq => by have := blk_lt BY.out; rcases hq with h | h; exact h; omega))
            have HG' := Lib.hid (below_step HG.out hb)
            have BY' := Lib.hid (blk_below BY.out hb)
            clear HG BY
            have HG := HG'
            have BY := BY'
            clear HG' BY'
            clear hY hb HM
            refine hK.out _ _ ⟨(blk_cell (blk_below BT2.out HG.out) 0).trans rfl, (blk_cell (blk_below BZ2.out HG.out) 0).trans rfl⟩ (fun hHeld => ?_)
            clear hK K
            refine norm_ (a' := ?_) ?_ ?_
            rotate_left
            · show Act.put _ (some 55) _ = _
              simp only [Act.put, List.setIfInBounds_toArray, List.set_cons_zero, List.set_cons_succ, i64_w, i32_w]
              rfl
            refine pure_ (i := 6) (N := some 49) (v := ?_) (a' := ?_) #[true, true, true, true, true, true, true, false, false, true, false, false] rfl rfl (any_of HT_.out (by kernel_rfl)) (fun _ _ _ h => h) (Or.inl ⟨by rfl, ?_⟩) ?_ ?_
            rotate_left
            · intro w'
              go_simp
              with_reducible rfl
            rotate_left
            · simp only [Act.put, List.setIfInBounds_toArray, List.set_cons_zero, List.set_cons_succ, i64_w, i32_w]
              rfl
            refine pure_ (i := 7) (N := some 56) (v := ?_) (a' := ?_) #[true, true, true, true, true, true, true, true, false, true, false, false] rfl rfl (any_of HT_.out (by kernel_rfl)) (fun _ _ _ h => h) (Or.inl ⟨by rfl, ?_⟩) ?_ ?_
            rotate_left
            · intro w'
              go_simp
              with_reducible rfl
            rotate_left
            · simp only [Act.put, List.setIfInBounds_toArray, List.set_cons_zero, List.set_cons_succ, i64_w, i32_w]
              rfl
            refine pure_ (i := 8) (N := some 57) (v := ?_) (a' := ?_) #[true, true, true, true, true, true, true, true, true, true, false, false] rfl rfl (any_of HT_.out (by kernel_rfl)) (fun _ _ _ h => h) (Or.inl ⟨by rfl, ?_⟩) ?_ ?_
            rotate_left
            · intro w'
              go_simp
              with_reducible rfl
            rotate_left
            · simp only [Act.put, List.setIfInBounds_toArray, List.set_cons_zero, List.set_cons_succ, i64_w, i32_w]
              rfl
            refine one_ (i := 10) (N := none) #[true, true, true, true, true, true, true, true, true, true, true, false] rfl rfl (one_of HT_.out (by kernel_rfl)) (by decide) (fun K hK => ?_)
            obtain ⟨c60, c61, c62, c63, c64, c65, f60, f61, f62, f63, f64, f65⟩ := cz6_ BY.out
            refine skip_ (w1 := ?_) rfl rfl ?_ ?_
            rotate_left
            · go_simp
              rfl
            have BY' := Lib.hid (put6_ BY.out (.string x0) (.string x1) (.int .i64 x2) (.bool x3) (.string x4) (.slice Ay x5.length cy))
            have HY' := Lib.hid (V_far6 (b0 := .string x0) (b1 := .string x1) (b2 := .int .i64 x2) (b3 := .bool x3) (b4 := .string x4) (b5 := .slice Ay x5.length cy) HY.out (fun _ h => h))
            have HG' := Lib.hid (below_six HG.out YB.out (.string x0) (.string x1) (.int .i64 x2) (.bool x3) (.string x4) (.slice Ay x5.length cy))
            clear c60 c61 c62 c63 c64 c65 f60 f61 f62 f63 f64 f65
            clear BY HY HG
            have BY := BY'
            have HY := HY'
            have HG := HG'
            clear BY' HY' HG'
            refine hK.out _ _ ⟨(blk_cell (blk_below BT2.out HG.out) 0).trans rfl, (blk_cell (blk_below BZ2.out HG.out) 0).trans rfl⟩ (fun hHeld => ?_)
            clear hK K
            refine pure_ (i := 11) (N := some 7) (v := ?_) (a' := ?_) #[true, true, true, true, true, true, true, true, true, true, true, true] rfl rfl (any_of HT_.out (by kernel_rfl)) (fun _ _ _ h => h) (Or.inl ⟨by rfl, ?_⟩) ?_ ?_
            rotate_left
            · intro w'
              go_simp
              with_reducible rfl
            rotate_left
            · simp only [Act.put, List.setIfInBounds_toArray, List.set_cons_zero, List.set_cons_succ, i64_w, i32_w]
              rfl
            refine done_ (done_of HT_.out (by kernel_rfl)) ?_
            try go_wp2_with (fail)
            go_meet
            case rel => exact ⟨y, Ay, cy, rfl, rfl, BY, Lib.hid (Kd.V_reads' HY.out).2, HG⟩
        · refine box_step ?hg (N := 6) ?hd (cs := #[.string ⟨#[]⟩, .string ⟨#[]⟩, .int .i64 0, .bool false, .string ⟨#[]⟩, .slice none 0 0]) (t := 43) ?hr ?_; (case hd => rfl); (case hg => rfl); (case hr => first | (go_simp; done) | (go_simp; rfl))
          intro y hz wq hbox hb
          have YB := Lib.hid (show w2.heap.size ≤ y by rw [hz]; exact HG.out.size)
          have HG' := Lib.hid (below_step HG.out hb)
          clear HG
          have HG := HG'
          clear HG'
          have BY := Lib.hid hbox
          clear hz hbox hb
          refine hK.out _ _ ⟨(blk_cell (blk_below BT2.out HG.out) 0).trans rfl, (blk_cell (blk_below BZ2.out HG.out) 0).trans rfl⟩ (fun hHeld => ?_)
          clear hK K
          refine norm_ (a' := ?_) ?_ ?_
          rotate_left
          · show Act.put _ (some 6) _ = _
            simp only [Act.put, List.setIfInBounds_toArray, List.set_cons_zero, List.set_cons_succ, i64_w, i32_w]
            rfl
          refine one_ (i := 2) (N := some 52) #[true, true, true, true, true, false, false, false, false, true, false, false] rfl rfl (one_of HT_.out (by kernel_rfl)) (by decide) (fun K hK => ?_)
          refine goes_ Tryz.func18 (by kernel_rfl) rfl #[.slice A0 l0.length c0] (by rfl) rfl rfl (by first | rfl | ((try simp only [List.map_toArray, List.map_cons, List.map_nil]); first | done | rfl | (simp only [List.length_drop, List.length_take]; rfl))) ?_
          with_reducible refine (wicketlaw11_all.calls k _ _ l0 m _ (Kd.C_below HR2.out HG.out) HC.out K2.out).mono ?_
          rintro e wq ⟨vm, rfl, hM, hb⟩
          refine ⟨_, rfl, ?_⟩
          obtain ⟨Am, cm, rfl⟩ := Kd.S_slice hM
          have HM := Lib.hid (Kd.S_mono (Kd.S_bound hM) (ok' := fun q => q ≠ y) (fun q hq => by have := hq.2.1; have := blk_lt BY.out; omega))
          have HG' := Lib.hid (below_step HG.out hb)
          have BY' := Lib.hid (blk_below BY.out hb)
          clear HG BY
          have HG := HG'
          have BY := BY'
          clear HG' BY'
          clear hM hb
          refine hK.out _ _ ⟨(blk_cell (blk_below BT2.out HG.out) 0).trans rfl, (blk_cell (blk_below BZ2.out HG.out) 0).trans rfl⟩ (fun hHeld => ?_)
          clear hK K
          refine norm_ (a' := ?_) ?_ ?_
          rotate_left
          · show Act.put _ (some 52) _ = _
            simp only [Act.put, List.setIfInBounds_toArray, List.set_cons_zero, List.set_cons_succ, i64_w, i32_w]
            rfl
          refine one_ (i := 5) (N := some 55) #[true, true, true, true, true, true, false, false, false, true, false, false] rfl rfl (one_of HT_.out (by kernel_rfl)) (by decide) (fun K hK => ?_)
          refine goes_ Tryz.func30 (by kernel_rfl) rfl #[.slice Am m.length cm, .string x0] (by rfl) rfl rfl (by first | rfl | ((try simp only [List.map_toArray, List.map_cons, List.map_nil]); first | done | rfl | (simp only [List.length_drop, List.length_take]; rfl))) ?_
          refine (wicketref11_Find.calls k (fun q => q ≠ y) _ _ m x0 x0 x1 x2 x3 x4 x5 true _ (Kd.S_V (base' := World.heap _ |>.size) HM.out) K3.out).mono ?_
          rintro e wq ⟨vy, rfl, hY, hb⟩
          refine ⟨_, rfl, ?_⟩
          obtain ⟨Ay, cy, rfl⟩ := Kd.V_slice hY
          have HY := Lib.hid (Kd.V_mono hY (ok' := fun q => q ≠ y) (fun q hq => by have := blk_lt BY.out; rcases hq with h | h; exact h; omega))
          have HG' := Lib.hid (below_step HG.out hb)
          have BY' := Lib.hid (blk_below BY.out hb)
          clear HG BY
          have HG := HG'
          have BY := BY'
          clear HG' BY'
          clear hY hb HM
          refine hK.out _ _ ⟨(blk_cell (blk_below BT2.out HG.out) 0).trans rfl, (blk_cell (blk_below BZ2.out HG.out) 0).trans rfl⟩ (fun hHeld => ?_)
          clear hK K
          refine norm_ (a' := ?_) ?_ ?_
          rotate_left
          · show Act.put _ (some 55) _ = _
            simp only [Act.put, List.setIfInBounds_toArray, List.set_cons_zero, List.set_cons_succ, i64_w, i32_w]
            rfl
          refine pure_ (i := 6) (N := some 49) (v := ?_) (a' := ?_) #[true, true, true, true, true, true, true, false, false, true, false, false] rfl rfl (any_of HT_.out (by kernel_rfl)) (fun _ _ _ h => h) (Or.inl ⟨by rfl, ?_⟩) ?_ ?_
          rotate_left
          · intro w'
            go_simp
            with_reducible rfl
          rotate_left
          · simp only [Act.put, List.setIfInBounds_toArray, List.set_cons_zero, List.set_cons_succ, i64_w, i32_w]
            rfl
          refine pure_ (i := 7) (N := some 56) (v := ?_) (a' := ?_) #[true, true, true, true, true, true, true, true, false, true, false, false] rfl rfl (any_of HT_.out (by kernel_rfl)) (fun _ _ _ h => h) (Or.inl ⟨by rfl, ?_⟩) ?_ ?_
          rotate_left
          · intro w'
            go_simp
            with_reducible rfl
          rotate_left
          · simp only [Act.put, List.setIfInBounds_toArray, List.set_cons_zero, List.set_cons_succ, i64_w, i32_w]
            rfl
          refine pure_ (i := 8) (N := some 57) (v := ?_) (a' := ?_) #[true, true, true, true, true, true, true, true, true, true, false, false] rfl rfl (any_of HT_.out (by kernel_rfl)) (fun _ _ _ h => h) (Or.inl ⟨by rfl, ?_⟩) ?_ ?_
          rotate_left
          · intro w'
            go_simp
            with_reducible rfl
          rotate_left
          · simp only [Act.put, List.setIfInBounds_toArray, List.set_cons_zero, List.set_cons_succ, i64_w, i32_w]
            rfl
          refine one_ (i := 10) (N := none) #[true, true, true, true, true, true, true, true, true, true, true, false] rfl rfl (one_of HT_.out (by kernel_rfl)) (by decide) (fun K hK => ?_)
          obtain ⟨c60, c61, c62, c63, c64, c65, f60, f61, f62, f63, f64, f65⟩ := cz6_ BY.out
          refine skip_ (w1 := ?_) rfl rfl ?_ ?_
          rotate_left
          · go_simp
            rfl
          have BY' := Lib.hid (put6_ BY.out (.string x0) (.string x1) (.int .i64 x2) (.bool x3) (.string x4) (.slice Ay x5.length cy))
          have HY' := Lib.hid (V_far6 (b0 := .string x0) (b1 := .string x1) (b2 := .int .i64 x2) (b3 := .bool x3) (b4 := .string x4) (b5 := .slice Ay x5.length cy) HY.out (fun _ h => h))
          have HG' := Lib.hid (below_six HG.out YB.out (.string x0) (.string x1) (.int .i64 x2) (.bool x3) (.string x4) (.slice Ay x5.length cy))
          clear c60 c61 c62 c63 c64 c65 f60 f61 f62 f63 f64 f65
          clear BY HY HG
          have BY := BY'
          have HY := HY'
          have HG := HG'
          clear BY' HY' HG'
          refine hK.out _ _ ⟨(blk_cell (blk_below BT2.out HG.out) 0).trans rfl, (blk_cell (blk_below BZ2.out HG.out) 0).trans rfl⟩ (fun hHeld => ?_)
          clear hK K
          refine pure_ (i := 11) (N := some 7) (v := ?_) (a' := ?_) #[true, true, true, true, true, true, true, true, true, true, true, true] rfl rfl (any_of HT_.out (by kernel_rfl)) (fun _ _ _ h => h) (Or.inl ⟨by rfl, ?_⟩) ?_ ?_
          rotate_left
          · intro w'
            go_simp
            with_reducible rfl
          rotate_left
          · simp only [Act.put, List.setIfInBounds_toArray, List.set_cons_zero, List.set_cons_succ, i64_w, i32_w]
            rfl
          refine done_ (done_of HT_.out (by kernel_rfl)) ?_
          try go_wp2_with (fail)
          go_meet
          case rel => exact ⟨y, Ay, cy, rfl, rfl, BY, Lib.hid (Kd.V_reads' HY.out).2, HG⟩
      case rest =>
        obtain ⟨y, Ay, cy, rfl, rfl, BY, HY, HG⟩ := hcut
        have BT := Lib.hid (blk_below BT2.out HG.out)
        have BZ := Lib.hid (blk_below BZ2.out HG.out)
        have HX := Lib.hid (Kd.C_below HX2.out.2 HG.out)
        have HB' := Lib.hid (below_step HB.out HG.out)
        clear HB
        have HB := HB'
        clear HB' HG BT2 BZ2 HR2
        obtain ⟨d60, d61, d62, d63, d64, d65, g60, g61, g62, g63, g64, g65⟩ := cz6_ BY.out
        obtain ⟨c60, c61, c62, c63, c64, c65, f60, f61, f62, f63, f64, f65⟩ := cz6_ BZ.out
        go_wp2_with (fail)
        refine (wicketlaw11_same.calls k x0 x1 x2 x3 x4 Ax cx x5 x0 x1 x2 x3 x4 Ay cy x5 true _ HX.out HX2.out.1 HY.out.2 HY.out.1 K5.out).mono ?_
        rintro e w4 ⟨rfl, hb⟩
        clear c60 c61 c62 c63 c64 c65 f60 f61 f62 f63 f64 f65
        clear d60 d61 d62 d63 d64 d65 g60 g61 g62 g63 g64 g65
        have BT' := Lib.hid (blk_below BT.out hb)
        have BZ' := Lib.hid (blk_below BZ.out hb)
        have HB' := Lib.hid (below_step HB.out hb)
        clear BT BZ HB
        have BT := BT'
        have BZ := BZ'
        have HB := HB'
        clear BT' BZ' HB'
        clear hb
        have t0 := (blk_cell BT.out 0).trans rfl
        have t3 := (blk_cell BT.out 3).trans rfl
        have t4 := (blk_cell BT.out 4).trans rfl
        go_wp2_with (fail)
        refine (wicketlaw11_form.calls k _ _ l2 fp _ (Kd.C_below HQ.out HB.out) HD.out K6.out).mono ?_
        rintro e w5 ⟨vf, rfl, hF, hb⟩
        obtain ⟨Af, cf, rfl⟩ := Kd.R_slice hF
        have HF := Lib.hid (Kd.R_reads' hF).2
        clear t0 t3 t4
        clear hF
        have BT' := Lib.hid (blk_below BT.out hb)
        have BZ' := Lib.hid (blk_below BZ.out hb)
        have HB' := Lib.hid (below_step HB.out hb)
        clear BT BZ HB
        have BT := BT'
        have BZ := BZ'
        have HB := HB'
        clear BT' BZ' HB'
        clear hb
        have t0 := (blk_cell BT.out 0).trans rfl
        have t3 := (blk_cell BT.out 3).trans rfl
        have t4 := (blk_cell BT.out 4).trans rfl
        go_wp2_with (fail)
        refine (wicketref03_One.calls k _ _ fp _ iv ib ie _ HF.out.2 HF.out.1 KO1.out).mono ?_
        rintro e w6 ⟨rfl, ⟨nd, rfl⟩⟩
        clear t0 t3 t4
        clear HF
        have BT' := Lib.hid (blk_drewN BT.out nd)
        have BZ' := Lib.hid (blk_drewN BZ.out nd)
        have HB' := Lib.hid (pw_below_drewN HB.out nd)
        clear BT BZ HB
        have BT := BT'
        have BZ := BZ'
        have HB := HB'
        clear BT' BZ' HB'
        have t0 := (blk_cell BT.out 0).trans rfl
        have t3 := (blk_cell BT.out 3).trans rfl
        have t4 := (blk_cell BT.out 4).trans rfl
        go_wp2_with (fail)
        refine (wicketlaw11_form.calls k _ _ l2 fp _ (Kd.C_below HQ.out HB.out) HD.out K6.out).mono ?_
        rintro e w7 ⟨vf, rfl, hF, hb⟩
        obtain ⟨Ag, cg, rfl⟩ := Kd.R_slice hF
        have HF := Lib.hid (Kd.R_reads' hF).2
        clear t0 t3 t4
        clear hF
        have BT' := Lib.hid (blk_below BT.out hb)
        have BZ' := Lib.hid (blk_below BZ.out hb)
        have HB' := Lib.hid (below_step HB.out hb)
        clear BT BZ HB
        have BT := BT'
        have BZ := BZ'
        have HB := HB'
        clear BT' BZ' HB'
        clear hb
        have t0 := (blk_cell BT.out 0).trans rfl
        have t3 := (blk_cell BT.out 3).trans rfl
        have t4 := (blk_cell BT.out 4).trans rfl
        go_wp2_with (fail)
        refine (wicketref03_One.calls k _ _ fp _ sv sb se _ HF.out.2 HF.out.1 KO2.out).mono ?_
        rintro e w8 ⟨rfl, ⟨nd, rfl⟩⟩
        clear t0 t3 t4
        clear HF
        have BT' := Lib.hid (blk_drewN BT.out nd)
        have BZ' := Lib.hid (blk_drewN BZ.out nd)
        have HB' := Lib.hid (pw_below_drewN HB.out nd)
        clear BT BZ HB
        have BT := BT'
        have BZ := BZ'
        have HB := HB'
        clear BT' BZ' HB'
        have t0 := (blk_cell BT.out 0).trans rfl
        have t3 := (blk_cell BT.out 3).trans rfl
        have t4 := (blk_cell BT.out 4).trans rfl
        go_wp2_with (fail)
        refine (wicketref11_Basic.calls k a1 nm sh f _ KBs.out).mono ?_
        rintro e w9 ⟨rfl, hb⟩
        clear t0 t3 t4
        have BT' := Lib.hid (blk_below BT.out hb)
        have BZ' := Lib.hid (blk_below BZ.out hb)
        have HB' := Lib.hid (below_step HB.out hb)
        clear BT BZ HB
        have BT := BT'
        have BZ := BZ'
        have HB := HB'
        clear BT' BZ' HB'
        clear hb
        have t0 := (blk_cell BT.out 0).trans rfl
        have t3 := (blk_cell BT.out 3).trans rfl
        have t4 := (blk_cell BT.out 4).trans rfl
        obtain ⟨c60, c61, c62, c63, c64, c65, f60, f61, f62, f63, f64, f65⟩ := cz6_ BZ.out
        rcases HCASE.out with ⟨rfl, rfl, rfl, rfl, rfl⟩ | ⟨rfl, hne, rfl, rfl, rfl, rfl⟩ | ⟨rfl, hne, rfl, rfl, rfl, rfl, hiv⟩
        · go_wp2_with (fail)
          go_ret
          exact ⟨rfl, by repeat (first | (with_reducible first | exact HB.out | apply below_alloc | apply pw_below_drewN | apply below_drew1) | exact HB.out)⟩
        · have f1 : sv.toList.isEmpty = false := by cases hl : sv.toList with | nil => exact absurd hl hne | cons _ _ => rfl
          have f2 : (sv.toList == []) = false := beq_eq_false_iff_ne.2 hne
          have f3 : (sv.toList != []) = true := bne_iff_ne.2 hne
          go_wp2_with (fail)
          go_ret
          exact ⟨rfl, by repeat (first | (with_reducible first | exact HB.out | apply below_alloc | apply pw_below_drewN | apply below_drew1) | exact HB.out)⟩
        · have f1 : sh.toList.isEmpty = false := by cases hl : sh.toList with | nil => exact absurd hl hne | cons _ _ => rfl
          have f2 : (sh.toList == []) = false := beq_eq_false_iff_ne.2 hne
          have f3 : (sh.toList != []) = true := bne_iff_ne.2 hne
          rcases hiv with rfl | rfl
          · go_wp2_with (fail)
            go_ret
            exact ⟨rfl, by repeat (first | (with_reducible first | exact HB.out | apply below_alloc | apply pw_below_drewN | apply below_drew1) | exact HB.out)⟩
          · go_wp2_with (fail)
            all_goals
              go_ret
              exact ⟨rfl, by repeat (first | (with_reducible first | exact HB.out | apply below_alloc | apply pw_below_drewN | apply below_drew1) | exact HB.out)⟩
    · obtain ⟨rfl, rfl, rfl⟩ := KB.out her
      have e1 : (er != 0) = true := by simp [her]
      obtain ⟨c60, c61, c62, c63, c64, c65, f60, f61, f62, f63, f64, f65⟩ := cz6_ BZ.out
      go_wp2_with (go_at_call 19; (with_reducible refine (live_num er _).mono ?_); rintro _ w8 ⟨rfl, ⟨nd, rfl⟩⟩)
      go_ret
      exact ⟨rfl, by repeat (first | (with_reducible first | exact HB.out | apply below_alloc | apply pw_below_drewN | apply below_drew1) | exact HB.out)⟩
end Go.Proofs.YtmimipgmhgalaaaGreatDoor.PAll
end
section
namespace Go.Proofs
open Go.Shelf
def Tryz.lays119_ren : Go.Shelf.Ren := ⟨fun | 119 => 169 | n => n, fun | 21 => 21 | 4 => 4 | n => n, fun | n => n⟩
theorem Tryz.lays119 : Go.Proofs.Lays.n119 Tryz.prog Tryz.lays119_ren := {
  mixed := by kernel_rfl
  f119 := Tryz.func169.trans (congrArg some (by kernel_rfl))
  t4 := Tryz.underlying4
  a4 := Tryz.isAgg4
  z4 := Tryz.sizeOf4
  v4 := Tryz.zeroValue4
  t21 := Tryz.underlying21
  a21 := Tryz.isAgg21
  z21 := Tryz.sizeOf21
  v21 := Tryz.zeroValue21 }
theorem Tryz.utf8_ValidRune (r : Int) (w : World) :
    Calls Tryz.prog 169 #[.int .i32 r] w fun e w' => e = .returned (.bool (Lib.validRune r)) ∧ w' = w := Any.utf8_ValidRune Tryz.lays119 r w
def Tryz.lays137_ren : Go.Shelf.Ren := ⟨fun | 137 => 168 | 217 => 158 | 266 => 170 | n => n, fun | 9 => 9 | 5 => 5 | 3 => 3 | n => n, fun | n => n⟩
theorem Tryz.lays137 : Go.Proofs.Lays.n137 Tryz.prog Tryz.lays137_ren := {
  mixed := by kernel_rfl
  f137 := Tryz.func168.trans (congrArg some (by kernel_rfl))
  f217 := Tryz.func158.trans (congrArg some (by kernel_rfl))
  f266 := Tryz.func170.trans (congrArg some (by kernel_rfl))
  t3 := Tryz.underlying3
  a3 := Tryz.isAgg3
  z3 := Tryz.sizeOf3
  v3 := Tryz.zeroValue3
  t5 := Tryz.underlying5
  a5 := Tryz.isAgg5
  z5 := Tryz.sizeOf5
  v5 := Tryz.zeroValue5
  t9 := Tryz.underlying9
  a9 := Tryz.isAgg9
  z9 := Tryz.sizeOf9
  v9 := Tryz.zeroValue9 }
open Go.RowKit in
theorem Tryz.strings_IndexByte (s : ByteArray) (c : Int) (w : World) :
    Calls Tryz.prog 168 #[.string s, .int .u8 c] w fun e w' => e = .returned (.int .i64 (Lib.indexByte s.data.toList c.toNat.toUInt8)) ∧ w' = w := Any.strings_IndexByte Tryz.lays137 s c w
end Go.Proofs
end
section
namespace Go.Proofs.YtmimipgmhgalaaaGreatDoor.PAll
open Go.RowKit Go.Proofs.YtmimipgmhgalaaaGreatDoorW.PrintWords
set_option linter.unusedVariables false
set_option linter.unusedSimpArgs false
theorem any_quiet_left {P : Program} {f : FuncId} {args : Array Value} {w : World} {n : Nat} {v : Value}
    (h : Calls P f args (w.drewN n) fun e w' => e = .returned v ∧ w.drewN n = w') : Calls P f args (w.drewN n) fun e w'' => e = .returned v ∧ ∃ m, w'' = w.drewN m :=
  h.mono fun _ _ ⟨he, hm⟩ => ⟨he, n, hm.symm⟩
theorem any_quiet_add {P : Program} {f : FuncId} {args : Array Value} {w : World} {a n : Nat} {v : Value}
    (h : Calls P f args (w.drewN (a + n)) fun e w' => e = .returned v ∧ w.drewN (a + n) = w') : Calls P f args (w.drewN (a + n)) fun e w'' => e = .returned v ∧ ∃ m, w'' = w.drewN (a + m) :=
  h.mono fun _ _ ⟨he, hm⟩ => ⟨he, n, hm.symm⟩
theorem absentB (l : List UInt8) (c : UInt8) (h : ∀ b ∈ l, b ≠ c) : Lib.indexByte l c = -1 := by
  induction l with
  | nil => rfl
  | cons b l ih =>
    unfold Lib.indexByte
    have hb : (b == c) = false := by
      rw [Bool.eq_false_iff]
      intro e
      exact h b (by simp) (eq_of_beq e)
    rw [ih fun x hx => h x (by simp [hx]), hb]
    rfl
abbrev DU : ByteArray := ⟨#[45, 95]⟩
def isDU (x : Nat) : Bool := x == 45 || x == 95
theorem DU_index : ∀ x, x < 128 → decide (0 ≤ Lib.indexByte DU.data.toList x.toUInt8) = isDU x := by decide +kernel
theorem DU_small : ∀ b ∈ DU.data.toList, b.toNat < 128 := by decide +kernel
theorem DU_at : ∀ pos, pos < 2 → (Utf8.decode DU pos).2 = 1 ∧ (Utf8.decode DU pos).1 < 128 := by decide +kernel
def DuOk (x : Nat) (w : World) (e : Ending) (w' : World) : Prop := ∃ n : Int, e = .returned (.int .i64 n) ∧ decide (0 ≤ n) = isDU x ∧ Below w.heap.size w w'
set_option maxRecDepth 100000 in
set_option maxHeartbeats 1000000 in
theorem du_low (x : Nat) (w : World) (hx : x < 128) : Calls Tryz.prog 154 #[.string DU, .int .i32 (x : Int)] w (DuOk x w) := by
  have hcall : ∀ W : World, Calls Tryz.prog 168 #[.string DU, .int .u8 (x : Int)] W fun e w' => e = .returned (.int .i64 (Lib.indexByte DU.data.toList x.toUInt8)) ∧ W = w' := fun W =>
    (Tryz.strings_IndexByte DU (x : Int) W).mono fun e w' ⟨h, hw⟩ => ⟨by rw [h, Int.toNat_natCast], hw.symm⟩
  have HX := Lib.hid (DU_index x hx)
  have i0 : (0 : Int) ≤ (x : Int) := by omega
  have i1 : (x : Int) < 128 := by omega
  obtain ⟨L, hL⟩ : ∃ L, L = DU := ⟨_, rfl⟩
  rw [← hL] at hcall ⊢
  rw [← hL] at HX
  clear hL hx
  go_enter Tryz.func154, Tryz.ntmps154
  go_wp2_with (go_at_call 168; refine (hcall _).mono ?_; rintro e w1 ⟨rfl, rfl⟩)
  go_ret
  exact ⟨_, rfl, HX.out, Below.refl _ _⟩
set_option maxRecDepth 100000 in
set_option maxHeartbeats 1000000 in
theorem du_err (w : World) : Calls Tryz.prog 154 #[.string DU, .int .i32 65533] w fun e w' => e = .returned (.int .i64 (-1)) ∧ Below w.heap.size w w' := by
  have HA := Lib.hid DU_at
  have HZ := Lib.hid (show DU.size = 2 from rfl)
  obtain ⟨L, hL⟩ : ∃ L, L = DU := ⟨_, rfl⟩
  rw [← hL] at HA HZ ⊢
  clear hL
  go_enter Tryz.func154, Tryz.ntmps154
  go_wp2
  go_loopg [5, 6] 2 (fun gf v5 v6 wx => ∃ pos : Nat, wx.heap[w.heap.size]? = some (.stringIter L pos) ∧ Below w.heap.size w wx ∧ pos + gf = 2)
  case atStart => exact ⟨0, World.iter_heap w L 0, (Below.refl _ w).alloc (Nat.le_refl _) _, by omega⟩
  case round =>
    obtain ⟨pos, hit, hbw, hfu⟩ := hrel
    by_cases hps : pos < L.size
    · have hp := HA.out pos (by rw [HZ.out] at hps; omega)
      obtain ⟨g', rfl⟩ : ∃ g', gk = g' + 1 := ⟨gk - 1, by have := HZ.out; omega⟩
      have hnx : ∀ ty, (Instr.next (.pointer (some ⟨w.heap.size, 0, none⟩)) true ty).run Tryz.prog wr = _ := fun ty => Lib.run_next_any_at wr w.heap.size L pos ty hit hps
      obtain ⟨R, hR⟩ : ∃ R, (Utf8.decode L pos).1 = R := ⟨_, rfl⟩
      rw [hp.1, hR] at hnx
      rw [hR] at hp
      have hR1 : ((R : Int) == 65533) = false := by
        rw [Bool.eq_false_iff]
        intro h
        have := eq_of_beq h
        omega
      have hit2 := Lib.iterAt_heap wr w.heap.size L pos (pos + 1) hit
      have hbw2 := Lib.below_iterAt hbw (k := w.heap.size) (Nat.le_refl _) L (pos + 1)
      obtain ⟨W, hWd⟩ : ∃ W, wr.iterAt w.heap.size L (pos + 1) = W := ⟨_, rfl⟩
      rw [hWd] at hnx hit2 hbw2
      clear hp hR hit hbw hWd
      go_wp2
      go_roundg g'
      case measure => omega
      case rel => exact ⟨pos + 1, hit2, hbw2, by omega⟩
    · have hnx : ∀ ty, (Instr.next (.pointer (some ⟨w.heap.size, 0, none⟩)) true ty).run Tryz.prog wr = _ := fun ty => Lib.run_next_end_at wr w.heap.size L pos ty hit hps
      go_wp2
      go_ret
      exact ⟨rfl, hbw⟩
set_option maxRecDepth 100000 in
set_option maxHeartbeats 1000000 in
theorem du_bad (x : Nat) (w : World) (h0 : 128 ≤ x) (h1 : x ≠ 65533) (h2 : x ≤ 1114111) (hv : Lib.validRune (x : Int) = false) : Calls Tryz.prog 154 #[.string DU, .int .i32 (x : Int)] w fun e w' => e = .returned (.int .i64 (-1)) ∧ Below w.heap.size w w' := by
  have hcall : ∀ W : World, Calls Tryz.prog 169 #[.int .i32 (x : Int)] W fun e w' => e = .returned (.bool false) ∧ W = w' := fun W =>
    (Tryz.utf8_ValidRune (x : Int) W).mono fun e w' ⟨h, hw⟩ => ⟨by rw [h, hv], hw.symm⟩
  have i0 : (0 : Int) ≤ (x : Int) := by omega
  have i1 : decide ((x : Int) < 128) = false := decide_eq_false (by omega)
  have i2 : ((x : Int) == 65533) = false := by
    rw [Bool.eq_false_iff]
    intro h
    have := eq_of_beq h
    omega
  obtain ⟨L, hL⟩ : ∃ L, L = DU := ⟨_, rfl⟩
  rw [← hL]
  clear hL hv h0 h1 h2
  go_enter Tryz.func154, Tryz.ntmps154
  go_wp2_with (go_at_call 169; refine (hcall _).mono ?_; rintro e w1 ⟨rfl, rfl⟩)
  go_ret
  exact ⟨rfl, Below.refl _ _⟩
set_option maxRecDepth 100000 in
set_option maxHeartbeats 2000000 in
theorem du_wide (x : Nat) (w : World) (h0 : 128 ≤ x) (h1 : x ≠ 65533) (h2 : x ≤ 1114111) (hv : Lib.validRune (x : Int) = true) : Calls Tryz.prog 154 #[.string DU, .int .i32 (x : Int)] w fun e w' => e = .returned (.int .i64 (-1)) ∧ Below w.heap.size w w' := by
  have hcall : ∀ W : World, Calls Tryz.prog 169 #[.int .i32 (x : Int)] W fun e w' => e = .returned (.bool true) ∧ W = w' := fun W =>
    (Tryz.utf8_ValidRune (x : Int) W).mono fun e w' ⟨h, hw⟩ => ⟨by rw [h, hv], hw.symm⟩
  have hE := Lib.hid (encode_facts (x : Int) (by rw [validRune_eq]; exact hv) (by omega))
  have HS := Lib.hid DU_small
  have HZ := Lib.hid (show DU.size = 2 from rfl)
  have i0 : (0 : Int) ≤ (x : Int) := by omega
  have i1 : decide ((x : Int) < 128) = false := decide_eq_false (by omega)
  have i2 : ((x : Int) == 65533) = false := by
    rw [Bool.eq_false_iff]
    intro h
    have := eq_of_beq h
    omega
  obtain ⟨L, hL⟩ : ∃ L, L = DU := ⟨_, rfl⟩
  rw [← hL] at HS HZ ⊢
  clear hL hv h0 h1 h2
  obtain ⟨E, hEd⟩ : ∃ E, E = Utf8.encode (x : Int) := ⟨_, rfl⟩
  have hcv : ∀ W : World, (convert 21 9 (.int .i32 (x : Int))).run Tryz.prog W = .ok (.string E) W := fun W => by
    rw [hEd]; exact run_convert_int_string W 21 9 .i32 _ (by rw [Tryz.underlying21]; rfl) Tryz.underlying9
  rw [← hEd] at hE
  have hE1 := hE.out.1
  have hE2 := hE.out.2.1
  clear hEd
  go_enter Tryz.func154, Tryz.ntmps154
  go_wp2_with (go_at_call 169; refine (hcall _).mono ?_; rintro e w1 ⟨rfl, rfl⟩)
  go_step3
  go_wp2
  obtain ⟨m, hm⟩ : ∃ m : Nat, E.size = m + 1 := ⟨E.size - 1, by omega⟩
  have hm1 : (E.size : Int) - 1 = (m : Int) := by omega
  have hlt : m < E.size := by omega
  rw [hm1]
  by_cases hmL : m < L.size
  · obtain ⟨b, hb⟩ : ∃ b, b = E[m]'hlt := ⟨_, rfl⟩
    have hb1 : 128 ≤ b.toNat := by
      have h := hE.out.2.2 (by omega)
      rw [hb]
      simpa [hm] using h
    obtain ⟨a, ha⟩ : ∃ a, a = L[m]'hmL := ⟨_, rfl⟩
    have ha1 : a.toNat < 128 := by rw [ha]; exact HS.out _ (by show L.data[m] ∈ _; simp)
    refine wp_loop_rounds 1 ?_
    rw [rounds_succ]
    have hmz : (m : Int) < (L.size : Int) := by omega
    go_wp2
    have hidx : ∀ W : World, (Instr.index 9 (.string L) (.int .i64 (m : Int))).run Tryz.prog W = .ok (.int .u8 (a.toNat : Int)) W := fun W => by
      rw [ha]; clear hm hm1; go_simp
    have hidy : ∀ W : World, (Instr.index 9 (.string E) (.int .i64 (m : Int))).run Tryz.prog W = .ok (.int .u8 (b.toNat : Int)) W := fun W => by
      rw [hb]; clear hm hm1; go_simp
    have hne : ((a.toNat : Int) != (b.toNat : Int)) = true := by
      rw [bne_iff_ne]
      omega
    have hcall2 : ∀ W : World, Calls Tryz.prog 168 #[.string (L.extract (m + 1) L.size), .int .u8 (b.toNat : Int)] W fun e w' => e = .returned (.int .i64 (-1)) ∧ W = w' := fun W =>
      (Tryz.strings_IndexByte _ (b.toNat : Int) W).mono fun e w' ⟨h, hw⟩ => ⟨by
        rw [h, absentB]
        intro c hc e
        have h1 := HS.out c (mem_extract hc)
        rw [e, Int.toNat_natCast] at h1
        simp at h1
        omega, hw.symm⟩
    have j0 : (0 : Int) ≤ (m : Int) := by omega
    have j1 : (m : Int) ≤ 3 := by omega
    have j2 : IntKind.i64.wrap ((m : Int) + 1) = (m : Int) + 1 := IntWalk.i64_in _ (by omega)
    have j3 : (0 : Int) ≤ (m : Int) + 1 := by omega
    have j4 : ((m : Int) + 1).toNat = m + 1 := by omega
    have j5 : (m : Int) + 1 ≤ (L.size : Int) := by omega
    have HC := Lib.hid hcall2
    clear ha hb hm hm1 hcall hcall2
    go_step3
    go_wp2
    go_quiet (fail)
    go_wp2
    go_quiet ((go_at_call 168; first | exact any_quiet_left (HC.out _) | exact any_quiet_add (HC.out _)))
    go_wp2
    rw [Exit.noGoto_ret]
    go_simp
    go_ret
    exact ⟨rfl, pw_below_drewN (Below.refl _ _) _⟩
  · refine wp_loop_rounds 1 ?_
    rw [rounds_succ]
    have hmz : decide ((m : Int) < (L.size : Int)) = false := decide_eq_false (by omega)
    go_wp2
    rw [Exit.noGoto_ret]
    go_simp
    go_ret
    exact ⟨rfl, Below.refl _ _⟩
theorem isDU_wide (x : Nat) (h : 128 ≤ x) : isDU x = false := by
  unfold isDU
  rw [Bool.or_eq_false_iff, beq_eq_false_iff_ne, beq_eq_false_iff_ne]
  omega
theorem du_any (x : Nat) (w : World) (hx : x ≤ 1114111) : Calls Tryz.prog 154 #[.string DU, .int .i32 (x : Int)] w (DuOk x w) := by
  by_cases h0 : x < 128
  · exact du_low x w h0
  · have hI := isDU_wide x (by omega)
    have key : Calls Tryz.prog 154 #[.string DU, .int .i32 (x : Int)] w fun e w' => e = .returned (.int .i64 (-1)) ∧ Below w.heap.size w w' := by
      by_cases h1 : x = 65533
      · subst h1; exact du_err w
      · cases hv : Lib.validRune (x : Int) with
        | true => exact du_wide x w (by omega) h1 hx hv
        | false => exact du_bad x w (by omega) h1 hx hv
    exact key.mono fun e w' ⟨he, hb⟩ => ⟨-1, he, by rw [hI]; rfl, hb⟩
theorem dec_facts (s : ByteArray) (pos : Nat) (h : pos < s.size) : ∃ R n, Utf8.decode s pos = (R, n) ∧ R ≤ 1114111 ∧ 1 ≤ n ∧ pos + n ≤ s.size ∧
    ((n = 1 ∧ (s.data.toList.getD pos 0).toNat = R ∧ R < 128) ∨ (128 ≤ R ∧ ∀ q, q < n → 128 ≤ (s.data.toList.getD (pos + q) 0).toNat)) := by
  have hl : s.data.toList.length = s.size := by rw [Array.length_toList]; rfl
  rw [Lib.decode_N, hl]
  have l0 := (s.data.toList.getD pos 0).toNat_lt
  generalize e0 : (s.data.toList.getD pos 0).toNat = b0 at *
  generalize e1 : (s.data.toList.getD (pos + 1) 0).toNat = b1 at *
  generalize e2 : (s.data.toList.getD (pos + 2) 0).toNat = b2 at *
  generalize e3 : (s.data.toList.getD (pos + 3) 0).toNat = b3 at *
  by_cases hb : b0 < 128
  · refine ⟨b0, 1, ?_, by omega, by omega, by omega, .inl ⟨rfl, rfl, hb⟩⟩
    unfold Lib.decodeN; rw [if_pos hb]
  · rcases Lib.decodeN_shape (s.size - pos) b0 b1 b2 b3 with ⟨h1, _⟩ | ⟨h1, h2, h3, h4, h5⟩ | ⟨h1, h2, h3, h4, h5, h6, h7⟩ | ⟨h1, h2, h3, h4, h5, h6, h7, h8⟩ | h1
    · omega
    · refine ⟨_, _, h5, by omega, by omega, by omega, .inr ⟨h4, fun q hq => ?_⟩⟩
      match q, hq with
      | 0, _ => rw [Nat.add_zero, e0]; omega
      | 1, _ => rw [e1]; omega
    · refine ⟨_, _, h7, by omega, by omega, by omega, .inr ⟨by omega, fun q hq => ?_⟩⟩
      match q, hq with
      | 0, _ => rw [Nat.add_zero, e0]; omega
      | 1, _ => rw [e1]; omega
      | 2, _ => rw [e2]; omega
    · refine ⟨_, _, h8, by omega, by omega, by omega, .inr ⟨by omega, fun q hq => ?_⟩⟩
      match q, hq with
      | 0, _ => rw [Nat.add_zero, e0]; omega
      | 1, _ => rw [e1]; omega
      | 2, _ => rw [e2]; omega
      | 3, _ => rw [e3]; omega
    · refine ⟨_, _, h1, by omega, by omega, by omega, .inr ⟨by omega, fun q hq => ?_⟩⟩
      match q, hq with
      | 0, _ => rw [Nat.add_zero, e0]; omega
def hasDU (l : List UInt8) : Bool := l.any fun c => isDU c.toNat
theorem contains_isDU : ∀ n : Fin 256, ([45, 95] : List UInt8).contains (UInt8.ofNat n.val) = isDU n.val := by decide +kernel
theorem contains_DU (c : UInt8) : ([45, 95] : List UInt8).contains c = isDU c.toNat := by
  have h := contains_isDU ⟨c.toNat, c.toNat_lt⟩
  rw [UInt8.ofNat_toNat] at h
  exact h
theorem containsAny_DU : ∀ (l : List UInt8), Lib.containsAny l [45, 95] = hasDU l
  | [] => rfl
  | c :: r => by
    have ih := containsAny_DU r
    have hge := Lib.indexAny_ge [45, 95] r
    unfold Lib.containsAny hasDU at *
    rw [List.any_cons, Lib.indexAny]
    rw [contains_DU]
    cases h : isDU c.toNat with
    | true => rfl
    | false =>
      rw [Bool.false_or, ← ih]
      simp only [Bool.false_eq_true, if_false]
      by_cases hm : Lib.indexAny r [45, 95] = -1
      · rw [hm]; rfl
      · rw [if_neg (fun e => hm (beq_iff_eq.1 e)), decide_eq_decide]; omega
set_option maxRecDepth 100000 in
set_option maxHeartbeats 2000000 in
theorem indexAny_short (s : ByteArray) (w : World) (h8 : s.size ≤ 8) : Calls Tryz.prog 130 #[.string s, .string DU] w fun e w' => ∃ n : Int, e = .returned (.int .i64 n) ∧ decide (0 ≤ n) = hasDU s.data.toList ∧ Below w.heap.size w w' := by
  have hsl : s.data.toList.length = s.size := by rw [Array.length_toList]; rfl
  have hdec := dec_facts s
  have HD := Lib.hid hdec
  have h8z : decide ((8 : Int) < (s.size : Int)) = false := decide_eq_false (by omega)
  clear hdec
  have HRU := Lib.hid du_any
  have hZ : DU.size = 2 := rfl
  have hE : DU.toList.isEmpty = false := by rw [Lib.toList_data]; rfl
  obtain ⟨L, hL⟩ : ∃ L, L = DU := ⟨_, rfl⟩
  rw [← hL] at HRU hZ hE ⊢
  clear hL
  obtain ⟨G, hG⟩ : ∃ G, hasDU s.data.toList = G := ⟨_, rfl⟩
  rw [hG]
  go_enter Tryz.func130, Tryz.ntmps130
  go_wp2_with (go_at_call 155; refine (Tryz.strings_shouldUseASCIISet _ _).mono ?_; rintro e w' ⟨rfl, hw⟩; rw [hw, h8z])
  go_loopg [9, 10] s.size (fun g _ _ wx => ∃ pos : Nat, pos + g = s.size ∧ wx.heap[w.heap.size]? = some (.stringIter s pos) ∧ Below w.heap.size w wx ∧ hasDU (s.data.toList.drop pos) = G)
  case atStart => exact ⟨0, by omega, World.iter_heap w s 0, (Below.refl _ w).alloc (Nat.le_refl _) _, by rw [List.drop_zero]; exact hG⟩
  case round =>
    clear hG
    obtain ⟨pos, hpg, hit, hbw, hH⟩ := hrel
    by_cases hps : pos < s.size
    · obtain ⟨R, n, hRn, hR1, hn1, hn2, hcase⟩ := HD.out pos hps
      have hnx : ∀ ty, (Instr.next (.pointer (some ⟨w.heap.size, 0, none⟩)) true ty).run Tryz.prog wr = _ := fun ty => Lib.run_next_any_at wr w.heap.size s pos ty hit hps
      rw [hRn] at hnx
      have hit2 := Lib.iterAt_heap wr w.heap.size s pos (pos + n) hit
      have hbw2 := Lib.below_iterAt hbw (k := w.heap.size) (Nat.le_refl _) s (pos + n)
      obtain ⟨W, hWd⟩ : ∃ W, wr.iterAt w.heap.size s (pos + n) = W := ⟨_, rfl⟩
      simp only at hnx
      rw [hWd] at hnx hit2 hbw2
      have hgt : s.data.toList.getD pos 0 = s.data.toList[pos]'(by omega) := by rw [List.getD_eq_getElem?_getD, List.getElem?_eq_getElem (by omega)]; rfl
      cases hdu : isDU R with
      | true =>
        have hfin : G = true := by
          rw [← hH, List.drop_eq_getElem_cons (by omega)]
          rcases hcase with ⟨_, h2, _⟩ | ⟨h2, _⟩
          · unfold hasDU
            rw [List.any_cons, ← hgt, h2, hdu]; rfl
          · rw [isDU_wide R h2] at hdu; cases hdu
        have HF := Lib.hid hfin
        have HC := Lib.hid (HRU.out R W hR1)
        have HB := Lib.hid hbw2
        clear hH hcase hfin hRn hit hbw hWd hit2 hbw2 hgt
        go_wp2_with (go_at_call 154; refine HC.out.mono ?_; rintro e w2 ⟨z, rfl, hz, hb2⟩; rw [hdu] at hz; have hz2 : (0 : Int) ≤ z := of_decide_eq_true hz; have HB2 := Lib.hid hb2; clear hb2 hz)
        go_ret
        exact ⟨_, rfl, by rw [HF.out]; exact decide_eq_true (by omega), HB.out.trans (HB2.out.mono HB.out.size)⟩
      | false =>
        have hnext : hasDU (s.data.toList.drop (pos + n)) = G := by
          rw [← hH]
          have key : ∀ m, m ≤ n → hasDU (s.data.toList.drop pos) = hasDU (s.data.toList.drop (pos + m)) := by
            intro m
            induction m with
            | zero => intro _; rfl
            | succ m ih =>
              intro hm
              rw [ih (by omega), List.drop_eq_getElem_cons (show pos + m < s.data.toList.length by omega)]
              unfold hasDU
              rw [List.any_cons]
              have hb : isDU (s.data.toList[pos + m]'(by omega)).toNat = false := by
                have hg2 : s.data.toList.getD (pos + m) 0 = s.data.toList[pos + m]'(by omega) := by rw [List.getD_eq_getElem?_getD, List.getElem?_eq_getElem (by omega)]; rfl
                rcases hcase with ⟨h1, h2, _⟩ | ⟨_, h2⟩
                · obtain rfl : m = 0 := by omega
                  rw [← hg2, Nat.add_zero, h2]; exact hdu
                · rw [← hg2]; exact isDU_wide _ (h2 m (by omega))
              rw [hb, Bool.false_or]; rfl
          exact (key n (Nat.le_refl _)).symm
        have HN := Lib.hid hnext
        have HC := Lib.hid (HRU.out R W hR1)
        have HB := Lib.hid hbw2
        have HI := Lib.hid hit2
        clear hH hcase hnext hRn hit hbw hWd hit2 hbw2 hgt
        go_wp2_with (go_at_call 154; refine HC.out.mono ?_; rintro e w2 ⟨z, rfl, hz, hb2⟩; rw [hdu] at hz; have hz2 : decide ((0 : Int) ≤ z) = false := hz; have HB2 := Lib.hid hb2; clear hb2 hz)
        go_roundg (s.size - (pos + n))
        case measure => omega
        case rel => exact ⟨pos + n, by omega, (HB2.out.block _ (blk_lt HI.out)).trans HI.out, HB.out.trans (HB2.out.mono HB.out.size), HN.out⟩
    · have hnx : ∀ ty, (Instr.next (.pointer (some ⟨w.heap.size, 0, none⟩)) true ty).run Tryz.prog wr = _ := fun ty => Lib.run_next_end_at wr w.heap.size s pos ty hit hps
      rw [List.drop_eq_nil_of_le (by omega)] at hH
      have HH := Lib.hid hH
      have HB := Lib.hid hbw
      clear hH hbw
      go_wp2
      go_ret
      exact ⟨_, rfl, by rw [← HH.out]; rfl, HB.out⟩
theorem indexAny_du (s : ByteArray) (w : World) (hs : s.size < 4294967281) : Calls Tryz.prog 130 #[.string s, .string DU] w fun e w' => ∃ n : Int, e = .returned (.int .i64 n) ∧ decide (0 ≤ n) = hasDU s.data.toList ∧ Below w.heap.size w w' := by
  by_cases h8 : s.size ≤ 8
  · exact indexAny_short s w h8
  · refine (Tryz.strings_IndexAny_long (by intro w; kernel_rfl) s DU w (by decide) (by omega) hs (by decide) (fun j b hb => DU_small b (List.mem_of_getElem? hb))).mono fun e w' ⟨he, hw⟩ => ⟨_, he, ?_, ?_⟩
    · exact containsAny_DU s.data.toList
    · rw [hw]; exact below_alloc (below_alloc (Below.refl _ _) _) _
def strings_ContainsAny.f (a0 a1 : ByteArray) : Option Bool := if a0.size < 4294967281 ∧ a1 = DU then some (hasDU a0.data.toList) else none
set_option maxHeartbeats 1000000 in
theorem strings_ContainsAny.calls (a0 a1 : ByteArray) (r1 : Bool) (w : World) (h : strings_ContainsAny.f a0 a1 = some r1) :
    Calls Tryz.prog 96 #[.string a0, .string a1] w fun e w' => e = .returned (.bool r1) ∧ Below w.heap.size w w' := by
  unfold strings_ContainsAny.f at h
  split at h
  · rename_i hs
    obtain ⟨h1, rfl⟩ := hs
    obtain rfl := Option.some.inj h
    have HQ := Lib.hid (indexAny_du a0 w h1)
    go_enter Tryz.func96, Tryz.ntmps96
    go_wp2_with (go_at_call 130; refine HQ.out.mono ?_; rintro e w1 ⟨z, rfl, hz, hb⟩; have HZ := Lib.hid hz; clear hz)
    go_ret
    exact ⟨by rw [← HZ.out]; rfl, hb⟩
  · cases h
end Go.Proofs.YtmimipgmhgalaaaGreatDoor.PAll
end
section
namespace Go.Proofs.YtmimipgmhgalaaaGreatDoor.PAll
open Go.RowKit Go.Proofs.YtmimipgmhgalaaaGreatDoorW.PrintWords
set_option linter.unusedVariables false
set_option linter.unusedSimpArgs false
set_option maxRecDepth 100000 in
set_option maxHeartbeats 1000000 in
theorem sf_low (x y : Nat) (W : World) (hx : x < 128) (hy : y < 65536) (h : W.cell? ⟨0, x, none⟩ = some (.int .u16 (y : Int))) : Calls Tryz.prog 95 #[.int .i32 (x : Int)] W fun e w' => e = .returned (.int .i32 (y : Int)) ∧ w' = W := by
  go_enter Tryz.func95, Tryz.ntmps95
  have c1 : ((x : Int) < 0) = False := eq_false (by omega)
  have c2 : ((x : Int) > 1114111) = False := eq_false (by omega)
  have c3 : ((x : Int) < 128) = True := eq_true (by omega)
  go_wp2
  go_ret
  exact ⟨rfl, rfl⟩
set_option maxRecDepth 100000 in
set_option maxHeartbeats 1000000 in
theorem sf_383 (b o cap : Nat) (sp : Option Nat) (W : World) (h0 : W.cell? ⟨1, 0, none⟩ = some (.slice (some ⟨b, o, sp⟩) 94 cap)) (h47 : W.cell? ⟨b, o + 94, none⟩ = some (.int .u16 966)) (h23 : W.cell? ⟨b, o + 46, none⟩ = some (.int .u16 837)) (h11 : W.cell? ⟨b, o + 22, none⟩ = some (.int .u16 452)) (h5 : W.cell? ⟨b, o + 10, none⟩ = some (.int .u16 197))
    (h8 : W.cell? ⟨b, o + 16, none⟩ = some (.int .u16 304)) (h10 : W.cell? ⟨b, o + 20, none⟩ = some (.int .u16 383)) (h9 : W.cell? ⟨b, o + 18, none⟩ = some (.int .u16 305)) (h10b : W.cell? ⟨b, o + 20 + 1, none⟩ = some (.int .u16 83)) : Calls Tryz.prog 95 #[.int .i32 383] W fun e w' => e = .returned (.int .i32 83) ∧ w' = W := by
  go_enter Tryz.func95, Tryz.ntmps95
  go_wp2
  refine wp_loop_rounds 8 ?_
  rw [rounds_succ]
  go_wp2
  rw [rounds_succ]
  go_wp2
  rw [rounds_succ]
  go_wp2
  rw [rounds_succ]
  go_wp2
  rw [rounds_succ]
  go_wp2
  rw [rounds_succ]
  go_wp2
  rw [rounds_succ]
  go_wp2
  rw [rounds_succ]
  go_wp2
  go_ret
  exact ⟨rfl, rfl⟩
abbrev WBas0 : ByteArray := ⟨#[98, 97, 115, 105, 99]⟩
theorem or_u8 (a b : Nat) (ha : a < 256) (hb : b < 256) : bits .or .u8 (a : Int) (b : Int) = ((a ||| b : Nat) : Int) := (bits_nat .u8 8 (by decide) wraps_u8 a b ha hb).2
theorem or_low (a b : Nat) (ha : a < 256) (hb : b < 256) (h : bits .or .u8 (a : Int) (b : Int) < 128) : a < 128 := by
  rw [or_u8 a b ha hb] at h
  have := Nat.left_le_or (n := a) (m := b)
  omega
theorem or_high (a b : Nat) (ha : a < 256) (hb : b < 128) (h : 128 ≤ bits .or .u8 (a : Int) (b : Int)) : 128 ≤ a := by
  rw [or_u8 a b ha (by omega)] at h
  apply Classical.byContradiction
  intro hn
  have := Nat.or_lt_two_pow (x := a) (y := b) (n := 7) (by omega) (by omega)
  omega
theorem getD_at (s : ByteArray) (i : Nat) (h : i < s.size) : s.data.toList.getD i 0 = s[i]'h := by rw [List.getD_eq_getElem?_getD, List.getElem?_eq_getElem (by simpa using h)]; rfl
theorem WBas_low : ∀ i : Nat, i < 5 → (WBas0.data.toList.getD i 0).toNat < 128 := by decide
def ascT (j : Nat) : Nat := if j = 107 then 8490 else if j = 115 then 383 else if 65 ≤ j ∧ j ≤ 90 then j + 32 else if 97 ≤ j ∧ j ≤ 122 then j - 32 else j
structure FoldT (W : World) : Prop where
  asc : ∀ j, j < 128 → W.cell? ⟨0, j, none⟩ = some (.int .u16 (ascT j : Int))
  orb : ∃ b o cap sp, W.cell? ⟨1, 0, none⟩ = some (.slice (some ⟨b, o, sp⟩) 94 cap) ∧ W.cell? ⟨b, o + 94, none⟩ = some (.int .u16 966) ∧ W.cell? ⟨b, o + 46, none⟩ = some (.int .u16 837) ∧ W.cell? ⟨b, o + 22, none⟩ = some (.int .u16 452) ∧ W.cell? ⟨b, o + 10, none⟩ = some (.int .u16 197) ∧
    W.cell? ⟨b, o + 16, none⟩ = some (.int .u16 304) ∧ W.cell? ⟨b, o + 20, none⟩ = some (.int .u16 383) ∧ W.cell? ⟨b, o + 18, none⟩ = some (.int .u16 305) ∧ W.cell? ⟨b, o + 20 + 1, none⟩ = some (.int .u16 83)
theorem FoldT.below {w W : World} (h : FoldT w) (hb : Below w.heap.size w W) : FoldT W := by
  obtain ⟨h1, b, o, cap, sp, h2, h3, h4, h5, h6, h7, h8, h9, h10⟩ := h
  exact ⟨fun j hj => pw_cell_below hb (h1 j hj), b, o, cap, sp, pw_cell_below hb h2, pw_cell_below hb h3, pw_cell_below hb h4, pw_cell_below hb h5, pw_cell_below hb h6, pw_cell_below hb h7, pw_cell_below hb h8, pw_cell_below hb h9, pw_cell_below hb h10⟩
def sfT (x : Nat) : Nat := if x = 383 then 83 else ascT x
theorem ascT_lt : ∀ x, x < 128 → ascT x < 65536 := by decide +kernel
theorem sf_any (x : Nat) (W : World) (hT : FoldT W) (hx : x < 128 ∨ x = 383) : Calls Tryz.prog 95 #[.int .i32 (x : Int)] W fun e w' => e = .returned (.int .i32 (sfT x : Int)) ∧ w' = W := by
  by_cases h : x = 383
  · subst h
    obtain ⟨b, o, cap, sp, h2, h3, h4, h5, h6, h7, h8, h9, h10⟩ := hT.orb
    exact sf_383 b o cap sp W h2 h3 h4 h5 h6 h7 h8 h9 h10
  · have hx' : x < 128 := by omega
    have e : sfT x = ascT x := if_neg h
    rw [e]
    exact sf_low x (ascT x) W hx' (ascT_lt x hx') (hT.asc x hx')
abbrev WBas : ByteArray := ⟨#[98, 97, 115, 105, 99]⟩
set_option maxRecDepth 100000 in
theorem dr_low (s : ByteArray) (w : World) (h : 0 < s.size) (hlow : (s[0]'h).toNat < 128) : Calls Tryz.prog 94 #[.string s] w fun e w' => e = .returned (.tuple #[.int .i32 ((s[0]'h).toNat : Int), .int .i64 1]) ∧ w' = w := by
  have hz : (s.size : Int) ≠ 0 := by omega
  have h0 : (0 : Int) < (s.size : Int) := by omega
  have he : s.toList.isEmpty = false := by
    rw [ByteArray.toList_eq]
    have : s.data.toList.length = s.size := by simp
    cases hh : s.data.toList with
    | nil => rw [hh] at this; simp at this; omega
    | cons => rfl
  go_enter Tryz.func94, Tryz.ntmps94
  go_wp2
  go_ret2
  exact ⟨rfl, rfl⟩
theorem dec_383 (s : ByteArray) (pos n : Nat) (h : pos < s.size) (e : Utf8.decode s pos = (383, n)) : 2 ≤ n := by
  have hl : s.data.toList.length = s.size := by rw [Array.length_toList]; rfl
  rw [Lib.decode_N, hl] at e
  have l0 := (s.data.toList.getD pos 0).toNat_lt
  generalize e0 : (s.data.toList.getD pos 0).toNat = b0 at *
  generalize e1 : (s.data.toList.getD (pos + 1) 0).toNat = b1 at *
  generalize e2 : (s.data.toList.getD (pos + 2) 0).toNat = b2 at *
  generalize e3 : (s.data.toList.getD (pos + 3) 0).toNat = b3 at *
  by_cases hb : b0 < 128
  · unfold Lib.decodeN at e
    rw [if_pos hb] at e
    injection e with ea eb
    omega
  · rcases Lib.decodeN_shape (s.size - pos) b0 b1 b2 b3 with ⟨h1, _⟩ | ⟨h1, h2, h3, h4, h5⟩ | ⟨h1, h2, h3, h4, h5, h6, h7⟩ | ⟨h1, h2, h3, h4, h5, h6, h7, h8⟩ | h1
    · omega
    · rw [h5] at e; injection e with ea eb; omega
    · rw [h7] at e; injection e with ea eb; omega
    · rw [h8] at e; injection e with ea eb; omega
    · rw [h1] at e; injection e with ea eb; omega
structure Wd (S T : ByteArray) (pos m : Nat) : Prop where
  t : T.data.toList = ([98, 97, 115, 105, 99] : List UInt8).drop m
  ml : m ≤ 5
  pl : pos ≤ S.size
  le : S.size - pos ≤ 5 - m
  eq : S.size - pos = 5 - m → pos < S.size ∧ 128 ≤ (S.data.toList.getD pos 0).toNat
theorem Wd.size {S T : ByteArray} {pos m : Nat} (h : Wd S T pos m) : T.size = 5 - m := by
  have : T.data.toList.length = T.size := by simp
  rw [← this, h.t, List.length_drop]; rfl
theorem Wd.next {S T : ByteArray} {pos m n : Nat} (h : Wd S T pos m) (hlt : pos < S.size) (hn : pos + n ≤ S.size) (h1 : 1 ≤ n) (hc : (S.data.toList.getD pos 0).toNat < 128 ∨ 2 ≤ n) (hm : m < 5) : Wd S (T.extract 1 T.size) (pos + n) (m + 1) := by
  have hs := h.size
  have hle := h.le
  refine ⟨?_, by omega, by omega, by omega, fun e => ?_⟩
  · rw [Lib.extract_data, h.t, List.drop_drop, List.take_of_length_le]
    · rw [List.length_drop]; show 5 - (m + 1) ≤ _; omega
  · rcases hc with hc | hc
    · have := h.eq (by omega); omega
    · omega
theorem Wd.letter {S T : ByteArray} {pos m : Nat} (h : Wd S T pos m) (hm : m < 5) : ∃ (h0 : 0 < T.size), ((T[0]'h0).toNat = 98 ∨ (T[0]'h0).toNat = 97 ∨ (T[0]'h0).toNat = 115 ∨ (T[0]'h0).toNat = 105 ∨ (T[0]'h0).toNat = 99) := by
  have hs := h.size
  refine ⟨by omega, ?_⟩
  rw [← getD_at T 0 (by omega), h.t, List.getD_eq_getElem?_getD, List.getElem?_drop, Nat.add_zero]
  match m, hm with
  | 0, _ => exact .inl rfl
  | 1, _ => exact .inr (.inl rfl)
  | 2, _ => exact .inr (.inr (.inl rfl))
  | 3, _ => exact .inr (.inr (.inr (.inl rfl)))
  | 4, _ => exact .inr (.inr (.inr (.inr rfl)))
theorem next_far {f : Nat → Nat} {i : Nat} (h : ∃ j, i ≤ j ∧ j < 5 ∧ 128 ≤ f j) (hi : f i < 128) : ∃ j, i + 1 ≤ j ∧ j < 5 ∧ 128 ≤ f j := by
  obtain ⟨j, j1, j2, j3⟩ := h
  have hne : i ≠ j := by
    intro e
    rw [e] at hi
    omega
  exact ⟨j, by omega, j2, j3⟩
theorem wide_mk (s L : ByteArray) (i : Nat) (u2 u3 u4 u6 u7 u8 u9 u10 u11 u12 u13 u14 u15 u16 u17 u18 u19 u20 u21 u22 u23 u24 u25 u26 u27 u28 u29 u30 u31 u32 u33 u34 u35 u36 u37 u38 u39 u40 u41 u42 u43 u44 u45 u46 u47 u48 u49 u50 u51 u52 u53 u54 u55 u56 u57 u58 u59 u60 u61 u62 u63 u64 u65 u66 u67 u68 u69 u70 u71 u72 u73 u74 u75 u76 u77 u78 u79 u80 u81 u82 u83 u84 u85 u86 u87 u88 u89 u90 u91 u92 u93 u94 u95 u96 u97 u98 u99 u100 u101 u102 u103 u104 u105 u106 u107 u108 u109 u110 u111 u112 u113 u114 u115 u116 u117 u118 u119 u120 u121 u122 : Value) : ∃ u : Nat → Value, ({ tmps := #[.string s, .string L, u2, u3, u4, .int .i64 (i : Int), u6, u7, u8, u9, u10, u11, u12, u13, u14, u15, u16, u17, u18, u19, u20, u21, u22, u23, u24, u25, u26, u27, u28, u29, u30, u31, u32, u33, u34, u35, u36, u37, u38, u39, u40, u41, u42, u43, u44, u45, u46, u47, u48, u49, u50, u51, u52, u53, u54, u55, u56, u57, u58, u59, u60, u61, u62, u63, u64, u65, u66, u67, u68, u69, u70, u71, u72, u73, u74, u75, u76, u77, u78, u79, u80, u81, u82, u83, u84, u85, u86, u87, u88, u89, u90, u91, u92, u93, u94, u95, u96, u97, u98, u99, u100, u101, u102, u103, u104, u105, u106, u107, u108, u109, u110, u111, u112, u113, u114, u115, u116, u117, u118, u119, u120, u121, u122], defers := [] } : Act) = { tmps := #[.string s, .string L, u 2, u 3, u 4, .int .i64 (i : Int), u 6, u 7, u 8, u 9, u 10, u 11, u 12, u 13, u 14, u 15, u 16, u 17, u 18, u 19, u 20, u 21, u 22, u 23, u 24, u 25, u 26, u 27, u 28, u 29, u 30, u 31, u 32, u 33, u 34, u 35, u 36, u 37, u 38, u 39, u 40, u 41, u 42, u 43, u 44, u 45, u 46, u 47, u 48, u 49, u 50, u 51, u 52, u 53, u 54, u 55, u 56, u 57, u 58, u 59, u 60, u 61, u 62, u 63, u 64, u 65, u 66, u 67, u 68, u 69, u 70, u 71, u 72, u 73, u 74, u 75, u 76, u 77, u 78, u 79, u 80, u 81, u 82, u 83, u 84, u 85, u 86, u 87, u 88, u 89, u 90, u 91, u 92, u 93, u 94, u 95, u 96, u 97, u 98, u 99, u 100, u 101, u 102, u 103, u 104, u 105, u 106, u 107, u 108, u 109, u 110, u 111, u 112, u 113, u 114, u 115, u 116, u 117, u 118, u 119, u 120, u 121, u 122], defers := [] } := ⟨fun k => [undef, undef, u2, u3, u4, undef, u6, u7, u8, u9, u10, u11, u12, u13, u14, u15, u16, u17, u18, u19, u20, u21, u22, u23, u24, u25, u26, u27, u28, u29, u30, u31, u32, u33, u34, u35, u36, u37, u38, u39, u40, u41, u42, u43, u44, u45, u46, u47, u48, u49, u50, u51, u52, u53, u54, u55, u56, u57, u58, u59, u60, u61, u62, u63, u64, u65, u66, u67, u68, u69, u70, u71, u72, u73, u74, u75, u76, u77, u78, u79, u80, u81, u82, u83, u84, u85, u86, u87, u88, u89, u90, u91, u92, u93, u94, u95, u96, u97, u98, u99, u100, u101, u102, u103, u104, u105, u106, u107, u108, u109, u110, u111, u112, u113, u114, u115, u116, u117, u118, u119, u120, u121, u122].getD k undef, rfl⟩
def WideJ (s L : ByteArray) (w : World) (a' : Act) (w' : World) : Prop := w' = w ∧ ∃ (i : Nat), i < 5 ∧ 128 ≤ (s.data.toList.getD i 0).toNat ∧ ∃ u : Nat → Value, a' = { tmps := #[.string s, .string L, u 2, u 3, u 4, .int .i64 (i : Int), u 6, u 7, u 8, u 9, u 10, u 11, u 12, u 13, u 14, u 15, u 16, u 17, u 18, u 19, u 20, u 21, u 22, u 23, u 24, u 25, u 26, u 27, u 28, u 29, u 30, u 31, u 32, u 33, u 34, u 35, u 36, u 37, u 38, u 39, u 40, u 41, u 42, u 43, u 44, u 45, u 46, u 47, u 48, u 49, u 50, u 51, u 52, u 53, u 54, u 55, u 56, u 57, u 58, u 59, u 60, u 61, u 62, u 63, u 64, u 65, u 66, u 67, u 68, u 69, u 70, u 71, u 72, u 73, u 74, u 75, u 76, u 77, u 78, u 79, u 80, u 81, u 82, u 83, u 84, u 85, u 86, u 87, u 88, u 89, u 90, u 91, u 92, u 93, u 94, u 95, u 96, u 97, u 98, u 99, u 100, u 101, u 102, u 103, u 104, u 105, u 106, u 107, u 108, u 109, u 110, u 111, u 112, u 113, u 114, u 115, u 116, u 117, u 118, u 119, u 120, u 121, u 122], defers := [] }
set_option maxRecDepth 100000 in
set_option maxHeartbeats 2000000 in
theorem fold_wide (s : ByteArray) (hs : s.size = 5) (hn : ∃ j, j < 5 ∧ 128 ≤ (s.data.toList.getD j 0).toNat) (w : World) (hT : FoldT w) : Calls Tryz.prog 62 #[.string s, .string WBas] w fun e w' => e = .returned (.bool false) ∧ Below w.heap.size w w' := by
  have HT := Lib.hid hT
  have HN := Lib.hid hn
  clear hn hT
  have hL0 : WBas.size = 5 := rfl
  obtain ⟨L, hL⟩ : ∃ L, L = WBas := ⟨_, rfl⟩
  rw [← hL] at hL0 ⊢
  have HL := Lib.hid hL
  clear hL
  go_enter Tryz.func62, Tryz.ntmps62
  go_wp2
  refine wp_scope_jumps 0 (WideJ s L w) (fun _ _ => 0) rfl ?_ ?_
  · go_wp2
    go_loopg [5] 5 (fun gf v5 wx => ∃ i : Nat, v5 = .int .i64 (i : Int) ∧ i + gf = 5 ∧ wx = w ∧ ∃ j, i ≤ j ∧ j < 5 ∧ 128 ≤ (s.data.toList.getD j 0).toNat)
    case atStart => exact ⟨0, rfl, rfl, rfl, by obtain ⟨j, h1, h2⟩ := HN.out; exact ⟨j, Nat.zero_le _, h1, h2⟩⟩
    case round =>
      obtain ⟨i, rfl, hg, rfl, hj⟩ := hrel
      have hLlow : ∀ i (h : i < L.size), (L[i]'h).toNat < 128 := fun i h => by
        rw [← getD_at L i h, HL.out]
        exact WBas_low i (by omega)
      have HLL := Lib.hid hLlow
      have HJ := Lib.hid hj
      clear hj hLlow
      go_wp2
      · go_step3
        have h5 : i < 5 := by omega
        have hor : 128 ≤ bits .or .u8 (((s[i]'(by omega)).toNat : Nat) : Int) (((L[i]'(by omega)).toNat : Nat) : Int) := by assumption
        have hhi := or_high _ _ (UInt8.toNat_lt _) (HLL.out i (by omega)) hor
        rw [← getD_at s i (by omega)] at hhi
        exact ⟨rfl, rfl, i, h5, hhi, wide_mk s L i _ _ _ _ _ _ _ _ _ _ _ _ _ _ _ _ _ _ _ _ _ _ _ _ _ _ _ _ _ _ _ _ _ _ _ _ _ _ _ _ _ _ _ _ _ _ _ _ _ _ _ _ _ _ _ _ _ _ _ _ _ _ _ _ _ _ _ _ _ _ _ _ _ _ _ _ _ _ _ _ _ _ _ _ _ _ _ _ _ _ _ _ _ _ _ _ _ _ _ _ _ _ _ _ _ _ _ _ _ _ _ _ _ _ _ _ _ _ _ _⟩
      all_goals first
        | (simp only [Exit.jump]; go_ret; exact ⟨rfl, Below.refl _ _⟩)
        | (exfalso; obtain ⟨j, j1, j2, j3⟩ := HJ.out; omega)
        | skip
      all_goals
        have h5 : i < 5 := by omega
        have hor : bits .or .u8 (((s[i]'(by omega)).toNat : Nat) : Int) (((L[i]'(by omega)).toNat : Nat) : Int) < 128 := by assumption
        have hlow := or_low _ _ (UInt8.toNat_lt _) (UInt8.toNat_lt _) hor
        rw [← getD_at s i (by omega)] at hlow
        go_roundg (gk - 1)
        case measure => omega
        case rel => exact ⟨i + 1, rfl, by omega, rfl, next_far HJ.out hlow⟩
  · rintro a' w' ⟨rfl, i, hi, hwide, u, rfl⟩
    have c1 : ((i : Int) ≤ (s.size : Int)) = True := eq_true (by omega)
    have c2 : ((i : Int) ≤ (L.size : Int)) = True := eq_true (by omega)
    have hWd : Wd (s.extract i 5) (L.extract i 5) 0 i := by
      have e1 : (s.extract i 5).data.toList = s.data.toList.drop i := by
        rw [Lib.extract_data, List.take_of_length_le]
        rw [List.length_drop, Array.length_toList]; show s.size - i ≤ _; omega
      have e2 : (s.extract i 5).size = 5 - i := by
        have : (s.extract i 5).data.toList.length = (s.extract i 5).size := by rw [Array.length_toList]; rfl
        rw [← this, e1, List.length_drop, Array.length_toList]; show s.size - i = _; rw [hs]
      refine ⟨?_, by omega, by omega, by omega, fun _ => ⟨by omega, ?_⟩⟩
      · rw [Lib.extract_data, HL.out]
        exact List.take_of_length_le (by rw [List.length_drop]; exact Nat.le_refl _)
      · rw [e1, List.getD_eq_getElem?_getD, List.getElem?_drop, Nat.add_zero, ← List.getD_eq_getElem?_getD]; exact hwide
    have HW := Lib.hid hWd
    clear hWd hwide
    go_wp2
    obtain ⟨S, hS⟩ : ∃ S, S = s.extract i 5 := ⟨_, rfl⟩
    obtain ⟨T0, hT0⟩ : ∃ T0, T0 = L.extract i 5 := ⟨_, rfl⟩
    rw [← hS, ← hT0]
    rw [← hS, ← hT0] at HW
    clear hS hT0 c1 c2 HN HL
    have HDF := Lib.hid (dec_facts S)
    have H383 := Lib.hid (dec_383 S)
    go_loopg [1] S.size (fun g v1 wx => ∃ (T : ByteArray) (pos m : Nat), v1 = .string T ∧ Wd S T pos m ∧ pos + g = S.size ∧ wx.heap[w'.heap.size]? = some (.stringIter S pos) ∧ Below w'.heap.size w' wx)
    case atStart => exact ⟨_, 0, i, rfl, HW.out, by omega, World.iter_heap w' S 0, (Below.refl _ w').alloc (Nat.le_refl _) _⟩
    case round =>
      obtain ⟨T, pos, m, rfl, hW, hpg, hit, hbw⟩ := hrel
      by_cases hps : pos < S.size
      · obtain ⟨R, n, hRn, hR1, hn1, hn2, hcase⟩ := HDF.out pos hps
        have hm5 : m < 5 := by have := hW.le; have := hW.ml; omega
        obtain ⟨h0, hy⟩ := hW.letter hm5
        have hTz : T.size = 5 - m := hW.size
        have hnx : ∀ ty, (Instr.next (.pointer (some ⟨w'.heap.size, 0, none⟩)) true ty).run Tryz.prog wr = _ := fun ty => Lib.run_next_any_at wr w'.heap.size S pos ty hit hps
        rw [hRn] at hnx
        have hit2 := Lib.iterAt_heap wr w'.heap.size S pos (pos + n) hit
        have hbw2 := Lib.below_iterAt hbw (k := w'.heap.size) (Nat.le_refl _) S (pos + n)
        obtain ⟨W, hWd⟩ : ∃ W, wr.iterAt w'.heap.size S (pos + n) = W := ⟨_, rfl⟩
        simp only at hnx
        rw [hWd] at hnx hit2 hbw2
        have HTW := Lib.hid (HT.out.below hbw2)
        have HD := Lib.hid (fun V : World => dr_low T V h0 (by omega))
        obtain ⟨y, hyd⟩ : ∃ y, (T[0]'h0).toNat = y := ⟨_, rfl⟩
        rw [hyd] at HD hy
        have hylt : y < 128 := by omega
        have k1 : ((1 : Int) ≤ (T.size : Int)) = True := eq_true (by omega)
        have k2 : ((T.size : Int) == 0) = false := by rw [beq_eq_false_iff_ne]; omega
        have H2 := Lib.hid (fun (e : R = 383) => H383.out pos n hps (by rw [hRn, e]))
        have HNX := Lib.hid (fun hc => hW.next (n := n) hps hn2 hn1 hc hm5)
        have HI := Lib.hid hit2
        have HB := Lib.hid hbw2
        have HY := Lib.hid hy
        clear hRn hit hbw hWd hit2 hbw2 hW hy hyd HW HT hTz
        rcases hcase with ⟨hn, hbyte, hRl⟩ | ⟨hRh, hbytes⟩
        · have HC := Lib.hid hbyte
          clear hbyte
          go_wp2_with (go_at_call 94; refine (HD.out _).mono ?_; rintro e w2 ⟨rfl, rfl⟩)
          all_goals first
            | (go_roundg (S.size - (pos + n))
               case measure => omega
               case rel => exact ⟨_, pos + n, m + 1, rfl, HNX.out (.inl (by rw [HC.out]; exact hRl)), by omega, HI.out, HB.out⟩)
            | (go_ret; exact ⟨rfl, HB.out⟩)
            | (simp only [Exit.jump]; go_ret; exact ⟨rfl, HB.out⟩)
            | skip
        · clear hbytes
          by_cases hs5 : y = 115
          · subst hs5
            clear hylt HY
            have H115 := Lib.hid (fun (V : World) (h : FoldT V) => show Calls Tryz.prog 95 #[.int .i32 115] V (fun e w' => e = .returned (.int .i32 383) ∧ w' = V) from sf_any 115 V h (.inl (by decide)))
            have HF383 := Lib.hid (fun (V : World) (h : FoldT V) => show Calls Tryz.prog 95 #[.int .i32 383] V (fun e w' => e = .returned (.int .i32 83) ∧ w' = V) from sf_any 383 V h (.inr rfl))
            have H83 := Lib.hid (fun (V : World) (h : FoldT V) => show Calls Tryz.prog 95 #[.int .i32 83] V (fun e w' => e = .returned (.int .i32 115) ∧ w' = V) from sf_any 83 V h (.inl (by decide)))
            have r1 : ((115 : Int) == (R : Int)) = false := by rw [beq_eq_false_iff_ne]; omega
            have r2 : ((115 : Int) < (R : Int)) = True := eq_true (by omega)
            have r3 : ((R : Int) < 128) = False := eq_false (by omega)
            have r6 : ((83 : Int) < (R : Int)) = True := eq_true (by omega)
            by_cases hq : R = 383
            · have HN2 := Lib.hid (HNX.out (.inr (H2.out hq)))
              subst hq
              clear HNX H2 H83 HF383
              go_wp2_with (first | (go_at_call 94; refine (HD.out _).mono ?_; rintro e w2 ⟨rfl, rfl⟩) | (go_at_call 95; refine (H115.out _ HTW.out).mono ?_; rintro e w2 ⟨rfl, rfl⟩))
              refine wp_loop_rounds 1 ?_
              rw [rounds_succ]
              go_wp2
              go_roundg (S.size - (pos + n))
              case measure => omega
              case rel => exact ⟨_, pos + n, m + 1, rfl, HN2.out, by omega, HI.out, HB.out⟩
            · by_cases hlt : 383 < R
              · have r4 : ((383 : Int) < (R : Int)) = True := eq_true (by omega)
                clear HNX H2
                go_wp2_with (first | (go_at_call 94; refine (HD.out _).mono ?_; rintro e w2 ⟨rfl, rfl⟩) | (go_at_call 95; refine (H115.out _ HTW.out).mono ?_; rintro e w2 ⟨rfl, rfl⟩))
                refine wp_loop_rounds 3 ?_
                rw [rounds_succ]
                go_wp2_with (go_at_call 95; refine (HF383.out _ HTW.out).mono ?_; rintro e w2 ⟨rfl, rfl⟩)
                rw [rounds_succ]
                go_wp2_with (go_at_call 95; refine (H83.out _ HTW.out).mono ?_; rintro e w2 ⟨rfl, rfl⟩)
                rw [rounds_succ]
                go_wp2
                first | go_ret | (simp only [Exit.jump]; go_ret)
                exact ⟨rfl, HB.out⟩
              · have r4 : ((383 : Int) < (R : Int)) = False := eq_false (by omega)
                have r5 : ((383 : Int) == (R : Int)) = false := by rw [beq_eq_false_iff_ne]; omega
                clear HNX H2
                go_wp2_with (first | (go_at_call 94; refine (HD.out _).mono ?_; rintro e w2 ⟨rfl, rfl⟩) | (go_at_call 95; refine (H115.out _ HTW.out).mono ?_; rintro e w2 ⟨rfl, rfl⟩))
                refine wp_loop_rounds 1 ?_
                rw [rounds_succ]
                go_wp2
                first | go_ret | (simp only [Exit.jump]; go_ret)
                exact ⟨rfl, HB.out⟩
          · obtain ⟨z, hz1, hz2, hz3, hz4⟩ : ∃ z, z < 128 ∧ z ≠ y ∧ sfT y = z ∧ sfT z = y := by
              rcases HY.out with rfl | rfl | rfl | rfl | rfl
              · exact ⟨66, by decide, by decide, by decide, by decide⟩
              · exact ⟨65, by decide, by decide, by decide, by decide⟩
              · exact absurd rfl hs5
              · exact ⟨73, by decide, by decide, by decide, by decide⟩
              · exact ⟨67, by decide, by decide, by decide, by decide⟩
            have HA := Lib.hid (fun (V : World) (h : FoldT V) => sf_any y V h (.inl hylt))
            have HZ := Lib.hid (fun (V : World) (h : FoldT V) => sf_any z V h (.inl hz1))
            rw [hz3] at HA
            rw [hz4] at HZ
            have r1 : ((y : Int) == (R : Int)) = false := by rw [beq_eq_false_iff_ne]; omega
            have r2 : ((y : Int) < (R : Int)) = True := eq_true (by omega)
            have r3 : ((R : Int) < 128) = False := eq_false (by omega)
            have r4 : ((z : Int) < (R : Int)) = True := eq_true (by omega)
            have r5 : ((z : Int) == (y : Int)) = false := by rw [beq_eq_false_iff_ne]; omega
            clear HNX H2 hz3 hz4 HY hs5
            go_wp2_with (first | (go_at_call 94; refine (HD.out _).mono ?_; rintro e w2 ⟨rfl, rfl⟩) | (go_at_call 95; refine (HA.out _ HTW.out).mono ?_; rintro e w2 ⟨rfl, rfl⟩))
            refine wp_loop_rounds 2 ?_
            rw [rounds_succ]
            go_wp2_with (go_at_call 95; refine (HZ.out _ HTW.out).mono ?_; rintro e w2 ⟨rfl, rfl⟩)
            rw [rounds_succ]
            go_wp2
            first | go_ret | (simp only [Exit.jump]; go_ret)
            exact ⟨rfl, HB.out⟩
      · have hm5 : m < 5 := by
          have h1 := hW.ml
          have h2 := hW.eq
          have h3 := hW.le
          apply Classical.byContradiction
          intro hn
          have := (h2 (by omega)).1
          omega
        have hTz : (T.size == 0) = false := by rw [beq_eq_false_iff_ne, hW.size]; omega
        have hTi : ((T.size : Int) == 0) = false := by rw [beq_eq_false_iff_ne, hW.size]; omega
        have hnx : ∀ ty, (Instr.next (.pointer (some ⟨w'.heap.size, 0, none⟩)) true ty).run Tryz.prog wr = _ := fun ty => Lib.run_next_end_at wr w'.heap.size S pos ty hit hps
        have HB := Lib.hid hbw
        clear hW hbw hit
        go_wp2
        all_goals first
          | (go_ret; exact ⟨rfl, HB.out⟩)
          | (simp only [Exit.jump]; go_ret; exact ⟨rfl, HB.out⟩)
end Go.Proofs.YtmimipgmhgalaaaGreatDoor.PAll
end
section
namespace Go.Proofs.YtmimipgmhgalaaaGreatDoor.PAll
open Go.RowKit Go.Proofs.YtmimipgmhgalaaaGreatDoorW.PrintWords Go.Proofs.YtmimipgmhgalaaaGreatDoorW.PrintLast Go.Proofs.YtmimipgmhgalaaaGreatDoorW.PrintMore
attribute [local go_sem] max2_int min2_int max_two min_two max_three min_three max_four min_four
set_option linter.unusedVariables false
set_option linter.unusedSimpArgs false
def digest_place.l0 : Nat → ByteArray → Int → Int → Int → Option (Int)
 | 0, _, _, _, _ => none
 | k + 1, x0, x1, x7, x8 => if x8 < x7 then (if 0 ≤ x8 then (if x8 < (x0.size : Int) then (if (bt x0 x8) = x1 then (some x8) else (digest_place.l0 k x0 x1 x7 (wrap64 (x8 + 1)))) else (none)) else (none)) else (some (-1))
def digest_place.f (k : Nat) (a0 : ByteArray) (a1 : Int) : Option (Int) := digest_place.l0 k a0 a1 (a0.size : Int) 0
set_option maxHeartbeats 8000000 in
set_option maxRecDepth 100000 in
theorem digest_place.calls (k : Nat) (a0 : ByteArray) (a1 : Int) (r : Int) (w : World) (h : digest_place.f k a0 a1 = some r) :
 Calls Tryz.prog 157 #[.string a0, .int .u8 a1] w fun e w' => e = .returned (.int .i64 r) ∧ Drawn0 w w' := by
 have H : (digest_place.l0 k a0 a1 (a0.size : Int) 0) = some r := h
 clear h
 have H' := Aside0.mk H
 clear H
 go_enter Tryz.func157, Tryz.ntmps157
 go_wp2
 go_loopg [8] k (fun kq v8 w' => ∃ (x8_1 : Int), v8 = .int .i64 x8_1 ∧ Aside0 (digest_place.l0 kq a0 a1 (a0.size : Int) x8_1 = some r) ∧ Aside0 (kq ≤ k) ∧ Drawn0 w w')
 case atStart => exact ⟨(0), rfl, H', ⟨Nat.le_refl _⟩, by repeat (exact Drawn0.refl _)⟩
 case round =>
  clear H'
  obtain ⟨x8_1, rfl, HA, HK1, ⟨m1, rfl⟩⟩ := hrel
  cases gk with
  | zero => exact absurd HA.out (by simp [digest_place.l0])
  | succ k1 =>
   have H := HA.out
   clear HA
   simp only [digest_place.l0] at H
   by_cases c3 : x8_1 < (a0.size : Int)
   · rw [if_pos c3] at H
     have c3b0 : decide (x8_1 < (a0.size : Int)) = true := decide_eq_true c3
     clear c3
     by_cases c4 : 0 ≤ x8_1
     · rw [if_pos c4] at H
       have c4b0 : decide (0 ≤ x8_1) = true := decide_eq_true c4
       clear c4
       by_cases c5 : x8_1 < (a0.size : Int)
       · rw [if_pos c5] at H
         have c5b0 : decide (x8_1 < (a0.size : Int)) = true := decide_eq_true c5
         clear c5
         by_cases c7 : (bt a0 x8_1) = a1
         · rw [if_pos c7] at H
           have c7b0 : ((bt a0 x8_1) == a1) = true := beq_iff_eq.mpr c7
           have c7b1 : ((bt a0 x8_1) != a1) = false := bne_eq_false_iff_eq.mpr c7
           clear c7
           obtain rfl := Option.some.inj H
           have p6 : 0 ≤ (x8_1 : Int) := of_decide_eq_true (by assumption)
           have q6 : x8_1 < (a0.size : Int) := of_decide_eq_true (by assumption)
           have hx6 := bt_at a0 x8_1
           replace p6 := eq_true p6
           replace q6 := eq_true q6
           go_wp2
           go_ret
           exact ⟨by (rfl), by repeat (first | exact Drawn0.refl _ | apply Drawn0.step)⟩
         · rw [if_neg c7] at H
           have c7b0 : ((bt a0 x8_1) == a1) = false := beq_eq_false_iff_ne.mpr c7
           have c7b1 : ((bt a0 x8_1) != a1) = true := bne_iff_ne.mpr c7
           have H' := Aside0.mk H
           clear H
           have p6 : 0 ≤ (x8_1 : Int) := of_decide_eq_true (by assumption)
           have q6 : x8_1 < (a0.size : Int) := of_decide_eq_true (by assumption)
           have hx6 := bt_at a0 x8_1
           replace p6 := eq_true p6
           replace q6 := eq_true q6
           go_wp2
           go_roundg k1
           case measure => have := HK1.out; omega
           case rel => exact ⟨(wrap64 (x8_1 + 1)), rfl, H', ⟨by have := HK1.out; omega⟩, by repeat (first | exact Drawn0.refl _ | apply Drawn0.step)⟩
       · rw [if_neg c5] at H
         exact absurd H (by simp)
     · rw [if_neg c4] at H
       exact absurd H (by simp)
   · rw [if_neg c3] at H
     have c3b0 : decide (x8_1 < (a0.size : Int)) = false := decide_eq_false c3
     clear c3
     obtain rfl := Option.some.inj H
     go_wp2
     go_ret
     exact ⟨by (rfl), by repeat (first | exact Drawn0.refl _ | apply Drawn0.step)⟩
def digest_values.l0 : Nat → ByteArray → ByteArray → List Int → Int → Int → Option (List Int × Int × Int)
 | 0, _, _, _, _, _ => none
 | k + 1, x0, x1, x7, x14, x15 => if x15 < x14 then (if 0 ≤ x15 then (if x15 < (x1.size : Int) then ((digest_place.f k x0 (bt x1 x15)).bind fun t186 => (if t186 < 0 then (some (([] : List Int), 20, x15)) else (if x7.length < 17592186044416 then (digest_values.l0 k x0 x1 (x7 ++ [t186]) x14 (wrap64 (x15 + 1))) else (none)))) else (none)) else (none)) else (some (x7, 0, 0))
def digest_values.f (k : Nat) (a0 : ByteArray) (a1 : ByteArray) : Option (List Int × Int × Int) := if (a1.size : Int) > 65536 then (some (([] : List Int), 1, 0)) else (digest_values.l0 k a0 a1 ([] : List Int) (a1.size : Int) 0)
set_option maxHeartbeats 8000000 in
set_option maxRecDepth 100000 in
theorem digest_values.calls (k : Nat) (a0 : ByteArray) (a1 : ByteArray) (r1 : List Int) (r2 : Int) (r3 : Int) (w : World) (h : digest_values.f k a0 a1 = some (r1, r2, r3)) :
 Calls Tryz.prog 133 #[.string a0, .string a1] w fun e w' => ∃ v0_ : Value, e = .returned (.tuple #[v0_, .int .i64 r2, .int .i64 r3]) ∧ Kd.R (Kd.int .i64) 3 w' w.heap.size (fun _ => True) v0_ r1 ∧ Below w.heap.size w w' := by
 have HB := Aside0.mk (Below.refl w.heap.size w)
 have H : (if (a1.size : Int) > 65536 then (some (([] : List Int), 1, 0)) else (digest_values.l0 k a0 a1 ([] : List Int) (a1.size : Int) 0)) = some (r1, r2, r3) := h
 clear h
 by_cases c3 : (a1.size : Int) > 65536
 · rw [if_pos c3] at H
   have c3b0 : decide (65536 < (a1.size : Int)) = true := decide_eq_true c3
   have c3b1 : decide (65536 < a1.size) = true := decide_eq_true (by omega)
   clear c3
   simp only [Option.some.injEq, Prod.mk.injEq] at H
   obtain ⟨rfl, rfl, rfl⟩ := H
   go_enter Tryz.func133, Tryz.ntmps133
   go_wp2
   go_ret3
   exact ⟨_, rfl, by (exact Kd.R_nil _ _ _ _ _), by (with_reducible exact HB.out)⟩
 · rw [if_neg c3] at H
   have c3b0 : decide (65536 < (a1.size : Int)) = false := decide_eq_false c3
   have c3b1 : decide (65536 < a1.size) = false := decide_eq_false (by omega)
   clear c3
   have H' := Aside0.mk H
   clear H
   go_enter Tryz.func133, Tryz.ntmps133
   go_wp2
   go_loopg [7, 15] k (fun kq v7 v15 w' => ∃ (x7_1 : List Int) (x15_1 : Int), v15 = .int .i64 x15_1 ∧ Aside0 (digest_values.l0 kq a0 a1 x7_1 (a1.size : Int) x15_1 = some (r1, r2, r3)) ∧ Aside0 (kq ≤ k) ∧ Aside0 (Kd.R (Kd.int .i64) 3 w' w.heap.size (fun _ => True) v7 x7_1) ∧ Aside0 (Below w.heap.size w w'))
   case atStart => exact ⟨(([] : List Int)), (0), rfl, H', ⟨Nat.le_refl _⟩, ⟨by (exact Kd.R_nil _ _ _ _ _)⟩, ⟨HB.out⟩⟩
   case round =>
    clear H' c3b0 c3b1
    obtain ⟨x7_1, x15_1, rfl, HA, HK1, HO_7, HB⟩ := hrel
    cases gk with
    | zero => exact absurd HA.out (by simp [digest_values.l0])
    | succ k1 =>
     have H := HA.out
     clear HA
     simp only [digest_values.l0] at H
     by_cases c4 : x15_1 < (a1.size : Int)
     · rw [if_pos c4] at H
       have c4b0 : decide (x15_1 < (a1.size : Int)) = true := decide_eq_true c4
       clear c4
       by_cases c5 : 0 ≤ x15_1
       · rw [if_pos c5] at H
         have c5b0 : decide (0 ≤ x15_1) = true := decide_eq_true c5
         clear c5
         by_cases c6 : x15_1 < (a1.size : Int)
         · rw [if_pos c6] at H
           have c6b0 : decide (x15_1 < (a1.size : Int)) = true := decide_eq_true c6
           clear c6
           replace H := Option.bind_eq_some_iff.mp H
           obtain ⟨t186, A80, H⟩ := H
           replace H : (if t186 < 0 then (some (([] : List Int), 20, x15_1)) else (if x7_1.length < 17592186044416 then (digest_values.l0 k1 a0 a1 (x7_1 ++ [t186]) (a1.size : Int) (wrap64 (x15_1 + 1))) else (none))) = some (r1, r2, r3) := H
           have A8 := Aside0.mk A80
           clear A80
           by_cases c9 : t186 < 0
           · rw [if_pos c9] at H
             have c9b0 : decide (t186 < 0) = true := decide_eq_true c9
             clear c9
             simp only [Option.some.injEq, Prod.mk.injEq] at H
             obtain ⟨rfl, rfl, rfl⟩ := H
             have p7 : 0 ≤ (x15_1 : Int) := of_decide_eq_true (by assumption)
             have q7 : x15_1 < (a1.size : Int) := of_decide_eq_true (by assumption)
             have hx7 := bt_at a1 x15_1
             replace p7 := eq_true p7
             replace q7 := eq_true q7
             go_wp2_with (first | ((with_reducible refine gate_callee (f := 157) rfl ?_); refine goesL_ (some 22) rfl rfl Tryz.func157 (by kernel_rfl) rfl #[.string a0, .int .u8 (bt a1 x15_1)] rfl (by ((try simp only [List.map_toArray, List.map_cons, List.map_nil]); (rfl))) ?_; (with_reducible refine (digest_place.calls k1 a0 (bt a1 x15_1) t186 _ A8.out).mono ?_); rintro e w' ⟨rfl, ⟨nd, rfl⟩⟩; refine ⟨_, rfl, ?_⟩))
             go_ret3
             exact ⟨_, rfl, by (exact Kd.R_nil _ _ _ _ _), by (repeat (with_reducible first | exact HB.out | apply pw_below_drewN))⟩
           · rw [if_neg c9] at H
             have c9b0 : decide (t186 < 0) = false := decide_eq_false c9
             clear c9
             by_cases c10 : x7_1.length < 17592186044416
             · rw [if_pos c10] at H
               have LMc10 := Aside0.mk c10
               clear c10
               obtain ⟨y187, hy187⟩ : ∃ y_ : List Int, y_ = (x7_1 ++ [t186]) := ⟨_, rfl⟩
               replace H : (digest_values.l0 k1 a0 a1 y187 (a1.size : Int) (wrap64 (x15_1 + 1))) = some (r1, r2, r3) := by (rw [hy187]; with_reducible exact H)
               have Ny187 := Aside0.mk hy187
               clear hy187
               have H' := Aside0.mk H
               clear H
               have p7 : 0 ≤ (x15_1 : Int) := of_decide_eq_true (by assumption)
               have q7 : x15_1 < (a1.size : Int) := of_decide_eq_true (by assumption)
               have hx7 := bt_at a1 x15_1
               replace p7 := eq_true p7
               replace q7 := eq_true q7
               go_wp2_with (first | ((with_reducible refine gate_callee (f := 157) rfl ?_); refine goesL_ (some 22) rfl rfl Tryz.func157 (by kernel_rfl) rfl #[.string a0, .int .u8 (bt a1 x15_1)] rfl (by ((try simp only [List.map_toArray, List.map_cons, List.map_nil]); (rfl))) ?_; (with_reducible refine (digest_place.calls k1 a0 (bt a1 x15_1) t186 _ A8.out).mono ?_); rintro e w' ⟨rfl, ⟨nd, rfl⟩⟩; refine ⟨_, rfl, ?_⟩) | ((with_reducible refine gate_builtin (b := .append) (xs := #[.tmp 26, .tmp 28]) rfl ?_); at_builtin; refine Kd.R_append (Kd.int .i64) (w0 := w) w.heap.size rfl (.tmp 26) (.tmp 28) 122 3 (.int .i64 0) 8 rfl Tryz.underlying122 info3 rfl (by decide) (by omega) u7 x7_1 t186 [.int .i64 t186] (fun _ => True) (fun _ => False) rfl rfl ?aP (fun _ hk => hk.elim) ?aF ?aO ?aB ?aS ?aL ?_; (case aP => exact rfl); (case aB => exact (by (repeat (with_reducible first | exact HB.out | apply pw_below_drewN)))); (case aF => exact (fun _ _ => trivial)); (case aO => exact (by ((with_reducible repeat (apply Kd.R_drewN)); exact HO_7.out))); (case aS => exact (below_size (by (repeat (with_reducible first | exact HB.out | apply pw_below_drewN))))); (case aL => have := LMc10.out; omega); intro v188 w11 ho hb hg hat; rw [← Ny187.out] at ho; have n0_ := Aside0.mk hb; have n1_ := Aside0.mk ho; clear HB HO_7; have HB := n0_; have HO189 := n1_; clear n0_ n1_; clear ho hb hg hat))
               go_roundg k1
               case measure => have := HK1.out; omega
               case rel => exact ⟨(y187), (wrap64 (x15_1 + 1)), rfl, H', ⟨by have := HK1.out; omega⟩, ⟨HO189.out⟩, ⟨HB.out⟩⟩
             · rw [if_neg c10] at H
               exact absurd H (by simp)
         · rw [if_neg c6] at H
           exact absurd H (by simp)
       · rw [if_neg c5] at H
         exact absurd H (by simp)
     · rw [if_neg c4] at H
       have c4b0 : decide (x15_1 < (a1.size : Int)) = false := decide_eq_false c4
       clear c4
       simp only [Option.some.injEq, Prod.mk.injEq] at H
       obtain ⟨rfl, rfl, rfl⟩ := H
       go_wp2
       go_ret3
       exact ⟨_, rfl, by ((with_reducible repeat (first | apply Kd.R_alloc  | apply Kd.R_drewN  | apply Kd.R_drew)); exact HO_7.out), by (with_reducible exact HB.out)⟩
def digest_FromBase64.l0 : Nat → ByteArray → List Int → Int → Int → List Int → Int → Int → Option (List Int × Int × Int)
 | 0, _, _, _, _, _, _, _ => none
 | k + 1, x0, x8, x9, x10, x16, x30, x31 => if x31 < x30 then (if 0 ≤ x31 then (if x31 < (x16.length : Int) then (if (wrap64 (x10 + 6)) ≥ 8 then (if 0 ≤ (wrap64 ((wrap64 (x10 + 6)) - 8)) then (if x8.length < 140737488355328 then (digest_FromBase64.l0 k x0 (x8 ++ [(shr .i64 (Go.bits .or .i64 (wrap64 (x9 * 64)) (rd x16 x31)) (wrap64 ((wrap64 (x10 + 6)) - 8))) % 256]) (Go.bits .and .i64 (Go.bits .or .i64 (wrap64 (x9 * 64)) (rd x16 x31)) (wrap64 ((shl .i64 1 (wrap64 ((wrap64 (x10 + 6)) - 8))) - 1))) (wrap64 ((wrap64 (x10 + 6)) - 8)) x16 x30 (wrap64 (x31 + 1))) else (none)) else (none)) else (digest_FromBase64.l0 k x0 x8 (Go.bits .or .i64 (wrap64 (x9 * 64)) (rd x16 x31)) (wrap64 (x10 + 6)) x16 x30 (wrap64 (x31 + 1)))) else (none)) else (none)) else (if x9 = 0 then (some (x8, 0, 0)) else (some (([] : List Int), 21, wrap64 ((x0.size : Int) - 1))))
def digest_FromBase64.f (k : Nat) (a0 : ByteArray) : Option (List Int × Int × Int) := (digest_values.f k (⟨#[65, 66, 67, 68, 69, 70, 71, 72, 73, 74, 75, 76, 77, 78, 79, 80, 81, 82, 83, 84, 85, 86, 87, 88, 89, 90, 97, 98, 99, 100, 101, 102, 103, 104, 105, 106, 107, 108, 109, 110, 111, 112, 113, 114, 115, 116, 117, 118, 119, 120, 121, 122, 48, 49, 50, 51, 52, 53, 54, 55, 56, 57, 45, 95]⟩ : ByteArray) a0).bind fun bt190 => (if bt190.2.1 = 0 then (if ((bt190.1.length : Int) % 4) = 1 then (some (([] : List Int), 3, (a0.size : Int))) else (digest_FromBase64.l0 k a0 ([] : List Int) 0 0 bt190.1 (bt190.1.length : Int) 0)) else (some (([] : List Int), bt190.2.1, bt190.2.2)))
set_option maxHeartbeats 8000000 in
set_option maxRecDepth 100000 in
theorem digest_FromBase64.calls (k : Nat) (a0 : ByteArray) (r1 : List Int) (r2 : Int) (r3 : Int) (w : World) (h : digest_FromBase64.f k a0 = some (r1, r2, r3)) :
 Calls Tryz.prog 99 #[.string a0] w fun e w' => ∃ v0_ : Value, e = .returned (.tuple #[v0_, .int .i64 r2, .int .i64 r3]) ∧ Kd.R (Kd.int .u8) 5 w' w.heap.size (fun _ => True) v0_ r1 ∧ Below w.heap.size w w' := by
 have HB := Aside0.mk (Below.refl w.heap.size w)
 have H : ((digest_values.f k (⟨#[65, 66, 67, 68, 69, 70, 71, 72, 73, 74, 75, 76, 77, 78, 79, 80, 81, 82, 83, 84, 85, 86, 87, 88, 89, 90, 97, 98, 99, 100, 101, 102, 103, 104, 105, 106, 107, 108, 109, 110, 111, 112, 113, 114, 115, 116, 117, 118, 119, 120, 121, 122, 48, 49, 50, 51, 52, 53, 54, 55, 56, 57, 45, 95]⟩ : ByteArray) a0).bind fun bt190 => (if bt190.2.1 = 0 then (if ((bt190.1.length : Int) % 4) = 1 then (some (([] : List Int), 3, (a0.size : Int))) else (digest_FromBase64.l0 k a0 ([] : List Int) 0 0 bt190.1 (bt190.1.length : Int) 0)) else (some (([] : List Int), bt190.2.1, bt190.2.2)))) = some (r1, r2, r3) := h
 clear h
 replace H := Option.bind_eq_some_iff.mp H
 obtain ⟨⟨t190, t191, t192⟩, A20, H⟩ := H
 replace H : (if t191 = 0 then (if ((t190.length : Int) % 4) = 1 then (some (([] : List Int), 3, (a0.size : Int))) else (digest_FromBase64.l0 k a0 ([] : List Int) 0 0 t190 (t190.length : Int) 0)) else (some (([] : List Int), t191, t192))) = some (r1, r2, r3) := H
 have A2 := Aside0.mk A20
 clear A20
 by_cases c3 : t191 = 0
 · rw [if_pos c3] at H
   have c3b0 : (t191 == 0) = true := beq_iff_eq.mpr c3
   have c3b1 : (t191 != 0) = false := bne_eq_false_iff_eq.mpr c3
   clear c3
   by_cases c4 : ((t190.length : Int) % 4) = 1
   · rw [if_pos c4] at H
     have c4b0 : (((t190.length : Int) % 4) == 1) = true := beq_iff_eq.mpr c4
     have c4b1 : (((t190.length : Int) % 4) != 1) = false := bne_eq_false_iff_eq.mpr c4
     clear c4
     simp only [Option.some.injEq, Prod.mk.injEq] at H
     obtain ⟨rfl, rfl, rfl⟩ := H
     go_enter Tryz.func99, Tryz.ntmps99
     go_wp2_with (first | ((with_reducible refine gate_callee (f := 133) rfl ?_); refine goesL_ (some 15) rfl rfl Tryz.func133 (by kernel_rfl) rfl #[.string (⟨#[65, 66, 67, 68, 69, 70, 71, 72, 73, 74, 75, 76, 77, 78, 79, 80, 81, 82, 83, 84, 85, 86, 87, 88, 89, 90, 97, 98, 99, 100, 101, 102, 103, 104, 105, 106, 107, 108, 109, 110, 111, 112, 113, 114, 115, 116, 117, 118, 119, 120, 121, 122, 48, 49, 50, 51, 52, 53, 54, 55, 56, 57, 45, 95]⟩ : ByteArray), .string a0] rfl (by ((try simp only [List.map_toArray, List.map_cons, List.map_nil]); (rfl))) ?_; (with_reducible refine (digest_values.calls k (⟨#[65, 66, 67, 68, 69, 70, 71, 72, 73, 74, 75, 76, 77, 78, 79, 80, 81, 82, 83, 84, 85, 86, 87, 88, 89, 90, 97, 98, 99, 100, 101, 102, 103, 104, 105, 106, 107, 108, 109, 110, 111, 112, 113, 114, 115, 116, 117, 118, 119, 120, 121, 122, 48, 49, 50, 51, 52, 53, 54, 55, 56, 57, 45, 95]⟩ : ByteArray) a0 t190 t191 t192 _ A2.out).mono ?_); rintro e w5 ⟨v193, rfl, ho0, hb⟩; refine ⟨_, rfl, ?_⟩; have HO194 := Aside0.mk (Kd.R_lower ho0 (below_size HB.out)); replace HB := Aside0.mk (below_step HB.out hb); clear hb ho0; obtain ⟨Ao6, co6, eo6⟩ := Kd.R_slice HO194.out; subst eo6))
     go_ret3
     exact ⟨_, rfl, by (exact Kd.R_nil _ _ _ _ _), by (with_reducible exact HB.out)⟩
   · rw [if_neg c4] at H
     have c4b0 : (((t190.length : Int) % 4) == 1) = false := beq_eq_false_iff_ne.mpr c4
     have c4b1 : (((t190.length : Int) % 4) != 1) = true := bne_iff_ne.mpr c4
     have H' := Aside0.mk H
     clear H
     go_enter Tryz.func99, Tryz.ntmps99
     go_wp2_with (first | ((with_reducible refine gate_callee (f := 133) rfl ?_); refine goesL_ (some 15) rfl rfl Tryz.func133 (by kernel_rfl) rfl #[.string (⟨#[65, 66, 67, 68, 69, 70, 71, 72, 73, 74, 75, 76, 77, 78, 79, 80, 81, 82, 83, 84, 85, 86, 87, 88, 89, 90, 97, 98, 99, 100, 101, 102, 103, 104, 105, 106, 107, 108, 109, 110, 111, 112, 113, 114, 115, 116, 117, 118, 119, 120, 121, 122, 48, 49, 50, 51, 52, 53, 54, 55, 56, 57, 45, 95]⟩ : ByteArray), .string a0] rfl (by ((try simp only [List.map_toArray, List.map_cons, List.map_nil]); (rfl))) ?_; (with_reducible refine (digest_values.calls k (⟨#[65, 66, 67, 68, 69, 70, 71, 72, 73, 74, 75, 76, 77, 78, 79, 80, 81, 82, 83, 84, 85, 86, 87, 88, 89, 90, 97, 98, 99, 100, 101, 102, 103, 104, 105, 106, 107, 108, 109, 110, 111, 112, 113, 114, 115, 116, 117, 118, 119, 120, 121, 122, 48, 49, 50, 51, 52, 53, 54, 55, 56, 57, 45, 95]⟩ : ByteArray) a0 t190 t191 t192 _ A2.out).mono ?_); rintro e w7 ⟨v193, rfl, ho0, hb⟩; refine ⟨_, rfl, ?_⟩; have HO194 := Aside0.mk (Kd.R_lower ho0 (below_size HB.out)); replace HB := Aside0.mk (below_step HB.out hb); clear hb ho0; obtain ⟨Ao8, co8, eo8⟩ := Kd.R_slice HO194.out; subst eo8))
     go_loopg [8, 9, 10, 31] k (fun kq v8 v9 v10 v31 w' => ∃ (x8_1 : List Int) (x9_1 : Int) (x10_1 : Int) (x31_1 : Int), v9 = .int .i64 x9_1 ∧ v10 = .int .i64 x10_1 ∧ v31 = .int .i64 x31_1 ∧ Aside0 (digest_FromBase64.l0 kq a0 x8_1 x9_1 x10_1 t190 (t190.length : Int) x31_1 = some (r1, r2, r3)) ∧ Aside0 (kq ≤ k) ∧ Aside0 (Kd.R (Kd.int .u8) 5 w' w.heap.size (fun _ => True) v8 x8_1) ∧ Aside0 (Kd.R (Kd.int .i64) 3 w' w.heap.size (fun _ => True) (.slice Ao8 t190.length co8) t190) ∧ Aside0 (Below w.heap.size w w'))
     case atStart => exact ⟨(([] : List Int)), (0), (0), (0), rfl, rfl, rfl, H', ⟨Nat.le_refl _⟩, ⟨by (exact Kd.R_nil _ _ _ _ _)⟩, ⟨HO194.out⟩, ⟨HB.out⟩⟩
     case round =>
      clear H' c3b0 c3b1 c4 c4b0 c4b1
      obtain ⟨x8_1, x9_1, x10_1, x31_1, rfl, rfl, rfl, HA, HK1, HO_8, HO_16, HB⟩ := hrel
      cases gk with
      | zero => exact absurd HA.out (by simp [digest_FromBase64.l0])
      | succ k1 =>
       have H := HA.out
       clear HA
       simp only [digest_FromBase64.l0] at H
       by_cases c9 : x31_1 < (t190.length : Int)
       · rw [if_pos c9] at H
         have c9b0 : decide (x31_1 < (t190.length : Int)) = true := decide_eq_true c9
         clear c9
         by_cases c10 : 0 ≤ x31_1
         · rw [if_pos c10] at H
           have c10b0 : decide (0 ≤ x31_1) = true := decide_eq_true c10
           clear c10
           by_cases c11 : x31_1 < (t190.length : Int)
           · rw [if_pos c11] at H
             have c11b0 : decide (x31_1 < (t190.length : Int)) = true := decide_eq_true c11
             clear c11
             by_cases c12 : (wrap64 (x10_1 + 6)) ≥ 8
             · rw [if_pos c12] at H
               have c12b0 : decide (8 ≤ (wrap64 (x10_1 + 6))) = true := decide_eq_true c12
               clear c12
               obtain ⟨ji13, hji13⟩ : ∃ j_ : Int, (wrap64 ((wrap64 (x10_1 + 6)) - 8)) = j_ := ⟨_, rfl⟩
               replace H : (if 0 ≤ (ji13) then (if x8_1.length < 140737488355328 then (digest_FromBase64.l0 k1 a0 (x8_1 ++ [(shr .i64 (Go.bits .or .i64 (wrap64 (x9_1 * 64)) (rd t190 x31_1)) (ji13)) % 256]) (Go.bits .and .i64 (Go.bits .or .i64 (wrap64 (x9_1 * 64)) (rd t190 x31_1)) (wrap64 ((shl .i64 1 (ji13)) - 1))) ji13 t190 (t190.length : Int) (wrap64 (x31_1 + 1))) else (none)) else (none)) = some (r1, r2, r3) := by (rw [hji13] at H; exact H)
               have hji13w : (IntKind.i64.wrap ((wrap64 (x10_1 + 6)) - 8)) = ji13 := (i64_w _).trans hji13
               by_cases c14 : 0 ≤ (ji13)
               · rw [if_pos c14] at H
                 have c14b0 := eq_true c14
                 have c14b1 : decide (0 ≤ (ji13)) = true := decide_eq_true c14
                 clear c14
                 obtain ⟨ji15, hji15⟩ : ∃ j_ : Int, (shr .i64 (Go.bits .or .i64 (wrap64 (x9_1 * 64)) (rd t190 x31_1)) (ji13)) = j_ := ⟨_, rfl⟩
                 replace H : (if x8_1.length < 140737488355328 then (digest_FromBase64.l0 k1 a0 (x8_1 ++ [(ji15) % 256]) (Go.bits .and .i64 (Go.bits .or .i64 (wrap64 (x9_1 * 64)) (rd t190 x31_1)) (wrap64 ((shl .i64 1 (ji13)) - 1))) ji13 t190 (t190.length : Int) (wrap64 (x31_1 + 1))) else (none)) = some (r1, r2, r3) := by (rw [hji15] at H; exact H)
                 have hji15_ : ((Go.bits .or .i64 (wrap64 (x9_1 * 64)) (rd t190 x31_1)) / 2 ^ min (ji13).toNat 64) = ji15 := hji15
                 have hji15z : (ji13) ≤ 64 → ((Go.bits .or .i64 (wrap64 (x9_1 * 64)) (rd t190 x31_1)) / 2 ^ (ji13).toNat) = ji15 := shr_small hji15
                 by_cases c16 : x8_1.length < 140737488355328
                 · rw [if_pos c16] at H
                   have LMc16 := Aside0.mk c16
                   clear c16
                   obtain ⟨y196, hy196⟩ : ∃ y_ : List Int, y_ = (x8_1 ++ [(ji15) % 256]) := ⟨_, rfl⟩
                   replace H : (digest_FromBase64.l0 k1 a0 y196 (Go.bits .and .i64 (Go.bits .or .i64 (wrap64 (x9_1 * 64)) (rd t190 x31_1)) (wrap64 ((shl .i64 1 (ji13)) - 1))) ji13 t190 (t190.length : Int) (wrap64 (x31_1 + 1))) = some (r1, r2, r3) := by (rw [hy196]; with_reducible exact H)
                   have Ny196 := Aside0.mk hy196
                   clear hy196
                   have c17b0 := eq_true (of_decide_eq_true (by assumption) : 0 ≤ (ji13))
                   obtain ⟨ji18, hji18⟩ : ∃ j_ : Int, (shl .i64 1 (ji13)) = j_ := ⟨_, rfl⟩
                   replace H : (digest_FromBase64.l0 k1 a0 y196 (Go.bits .and .i64 (Go.bits .or .i64 (wrap64 (x9_1 * 64)) (rd t190 x31_1)) (wrap64 ((ji18) - 1))) ji13 t190 (t190.length : Int) (wrap64 (x31_1 + 1))) = some (r1, r2, r3) := by (rw [hji18] at H; exact H)
                   have hji18_ : (IntKind.i64.wrap (1 * 2 ^ min (ji13).toNat 64)) = ji18 := hji18
                   have hji18z : (ji13) ≤ 64 → (IntKind.i64.wrap (1 * 2 ^ (ji13).toNat)) = ji18 := shl_small hji18
                   have hji18u : (IntKind.i64.wrap (2 ^ min (ji13).toNat 64)) = ji18 := by have h_ := hji18_; rw [Int.one_mul] at h_; exact h_
                   have hji18v : (ji13) ≤ 64 → (IntKind.i64.wrap (2 ^ (ji13).toNat)) = ji18 := fun hle_ => by have h_ := hji18z hle_; rw [Int.one_mul] at h_; exact h_
                   have hji18y : (wrap64 (1 * 2 ^ min (ji13).toNat 64)) = ji18 := (i64_w _).symm.trans hji18_
                   have hji18x : (ji13) ≤ 64 → (wrap64 (1 * 2 ^ (ji13).toNat)) = ji18 := fun h_ => (i64_w _).symm.trans (hji18z h_)
                   have H' := Aside0.mk H
                   clear H
                   have p195 : 0 ≤ (x31_1 : Int) := of_decide_eq_true (by assumption)
                   have q195 : x31_1 < (t190.length : Int) := of_decide_eq_true (by assumption)
                   obtain ⟨ad195, e195, hx195_0⟩ := Kd.at_int (Kd.R_reads' HO_16.out).2.2 x31_1 p195 q195
                   cases e195
                   replace p195 := eq_true p195
                   replace q195 := eq_true q195
                   go_wp2_with (first | ((with_reducible refine gate_builtin (b := .append) (xs := #[.tmp 45, .tmp 50]) rfl ?_); at_builtin; refine Kd.R_append (Kd.int .u8) (w0 := w) w.heap.size rfl (.tmp 45) (.tmp 50) 79 5 (.int .u8 0) 1 rfl Tryz.underlying79 info5 rfl (by decide) (by omega) u8 x8_1 ((ji15) % 256) [.int .u8 ((ji15) % 256)] (fun _ => True) (fun _ => False) rfl rfl ?aP (fun _ hk => hk.elim) ?aF ?aO ?aB ?aS ?aL ?_; (case aP => exact rfl); (case aB => exact HB.out); (case aF => exact (fun _ _ => trivial)); (case aO => exact HO_8.out); (case aS => exact (below_size HB.out)); (case aL => have := LMc16.out; omega); intro v197 w19 ho hb hg hat; rw [← Ny196.out] at ho; have n0_ := Aside0.mk (Kd.R_over' HO_16.out (Kd.R_typed HO_8.out) (by decide) hg); have n1_ := Aside0.mk hb; have n2_ := Aside0.mk ho; clear HO_16 HB HO_8; have HO_16 := n0_; have HB := n1_; have HO198 := n2_; clear n0_ n1_ n2_; clear ho hb hg hat))
                   go_roundg k1
                   case measure => have := HK1.out; omega
                   case rel => exact ⟨(y196), (Go.bits .and .i64 (Go.bits .or .i64 (wrap64 (x9_1 * 64)) (rd t190 x31_1)) (wrap64 ((ji18) - 1))), (ji13), (wrap64 (x31_1 + 1)), rfl, rfl, rfl, H', ⟨by have := HK1.out; omega⟩, ⟨HO198.out⟩, ⟨HO_16.out⟩, ⟨HB.out⟩⟩
                 · rw [if_neg c16] at H
                   exact absurd H (by simp)
               · rw [if_neg c14] at H
                 exact absurd H (by simp)
             · rw [if_neg c12] at H
               have c12b0 : decide (8 ≤ (wrap64 (x10_1 + 6))) = false := decide_eq_false c12
               clear c12
               have H' := Aside0.mk H
               clear H
               have p195 : 0 ≤ (x31_1 : Int) := of_decide_eq_true (by assumption)
               have q195 : x31_1 < (t190.length : Int) := of_decide_eq_true (by assumption)
               obtain ⟨ad195, e195, hx195_0⟩ := Kd.at_int (Kd.R_reads' HO_16.out).2.2 x31_1 p195 q195
               cases e195
               replace p195 := eq_true p195
               replace q195 := eq_true q195
               go_wp2
               go_roundg k1
               case measure => have := HK1.out; omega
               case rel => exact ⟨(x8_1), (Go.bits .or .i64 (wrap64 (x9_1 * 64)) (rd t190 x31_1)), (wrap64 (x10_1 + 6)), (wrap64 (x31_1 + 1)), rfl, rfl, rfl, H', ⟨by have := HK1.out; omega⟩, ⟨HO_8.out⟩, ⟨HO_16.out⟩, ⟨HB.out⟩⟩
           · rw [if_neg c11] at H
             exact absurd H (by simp)
         · rw [if_neg c10] at H
           exact absurd H (by simp)
       · rw [if_neg c9] at H
         have c9b0 : decide (x31_1 < (t190.length : Int)) = false := decide_eq_false c9
         clear c9
         by_cases c20 : x9_1 = 0
         · rw [if_pos c20] at H
           have c20b0 : (x9_1 == 0) = true := beq_iff_eq.mpr c20
           have c20b1 : (x9_1 != 0) = false := bne_eq_false_iff_eq.mpr c20
           clear c20
           simp only [Option.some.injEq, Prod.mk.injEq] at H
           obtain ⟨rfl, rfl, rfl⟩ := H
           go_wp2
           go_ret3
           exact ⟨_, rfl, by ((with_reducible repeat (first | apply Kd.R_alloc  | apply Kd.R_drewN  | apply Kd.R_drew)); exact HO_8.out), by (with_reducible exact HB.out)⟩
         · rw [if_neg c20] at H
           have c20b0 : (x9_1 == 0) = false := beq_eq_false_iff_ne.mpr c20
           have c20b1 : (x9_1 != 0) = true := bne_iff_ne.mpr c20
           simp only [Option.some.injEq, Prod.mk.injEq] at H
           obtain ⟨rfl, rfl, rfl⟩ := H
           go_wp2
           go_ret3
           exact ⟨_, rfl, by (exact Kd.R_nil _ _ _ _ _), by (with_reducible exact HB.out)⟩
 · rw [if_neg c3] at H
   have c3b0 : (t191 == 0) = false := beq_eq_false_iff_ne.mpr c3
   have c3b1 : (t191 != 0) = true := bne_iff_ne.mpr c3
   simp only [Option.some.injEq, Prod.mk.injEq] at H
   obtain ⟨rfl, rfl, rfl⟩ := H
   go_enter Tryz.func99, Tryz.ntmps99
   go_wp2_with (first | ((with_reducible refine gate_callee (f := 133) rfl ?_); refine goesL_ (some 15) rfl rfl Tryz.func133 (by kernel_rfl) rfl #[.string (⟨#[65, 66, 67, 68, 69, 70, 71, 72, 73, 74, 75, 76, 77, 78, 79, 80, 81, 82, 83, 84, 85, 86, 87, 88, 89, 90, 97, 98, 99, 100, 101, 102, 103, 104, 105, 106, 107, 108, 109, 110, 111, 112, 113, 114, 115, 116, 117, 118, 119, 120, 121, 122, 48, 49, 50, 51, 52, 53, 54, 55, 56, 57, 45, 95]⟩ : ByteArray), .string a0] rfl (by ((try simp only [List.map_toArray, List.map_cons, List.map_nil]); (rfl))) ?_; (with_reducible refine (digest_values.calls k (⟨#[65, 66, 67, 68, 69, 70, 71, 72, 73, 74, 75, 76, 77, 78, 79, 80, 81, 82, 83, 84, 85, 86, 87, 88, 89, 90, 97, 98, 99, 100, 101, 102, 103, 104, 105, 106, 107, 108, 109, 110, 111, 112, 113, 114, 115, 116, 117, 118, 119, 120, 121, 122, 48, 49, 50, 51, 52, 53, 54, 55, 56, 57, 45, 95]⟩ : ByteArray) a0 t190 t191 t192 _ A2.out).mono ?_); rintro e w21 ⟨v193, rfl, ho0, hb⟩; refine ⟨_, rfl, ?_⟩; have HO194 := Aside0.mk (Kd.R_lower ho0 (below_size HB.out)); replace HB := Aside0.mk (below_step HB.out hb); clear hb ho0))
   go_ret3
   exact ⟨_, rfl, by (exact Kd.R_nil _ _ _ _ _), by (with_reducible exact HB.out)⟩
end Go.Proofs.YtmimipgmhgalaaaGreatDoor.PAll
end
section
namespace Go.Proofs.YtmimipgmhgalaaaGreatDoor.PAll
open Go.RowKit Go.Proofs.YtmimipgmhgalaaaGreatDoorW.PrintWords Go.Shelf
set_option linter.unusedVariables false
set_option linter.unusedSimpArgs false
def repL (x y : UInt8) (l : List UInt8) : List UInt8 := l.map fun c => if c = x then y else c
theorem repL_none (x y : UInt8) (l : List UInt8) (h : x ∉ l) : repL x y l = l := by
  unfold repL
  conv => rhs; rw [← List.map_id l]
  apply List.map_congr_left
  intro c hc
  have hne : c ≠ x := fun e => h (by rw [← e]; exact hc)
  show (if c = x then y else c) = c
  rw [if_neg hne]
theorem repL_same (x : UInt8) (l : List UInt8) : repL x x l = l := by
  unfold repL
  conv => rhs; rw [← List.map_id l]
  apply List.map_congr_left
  intro c _
  by_cases h : c = x
  · rw [if_pos h]; exact h.symm
  · rw [if_neg h]; rfl
theorem index_step (x y : UInt8) : ∀ (l : List UInt8), 0 < l.count x → ∃ j : Nat, Lib.index l [x] = (j : Int) ∧ j + 1 ≤ l.length ∧ l.count x = (l.drop (j + 1)).count x + 1 ∧ repL x y l = l.take j ++ [y] ++ repL x y (l.drop (j + 1))
  | [], h => by simp at h
  | c :: r, h => by
    rw [Lib.index_one]
    by_cases e : c = x
    · subst e
      exact ⟨0, by simp [Lib.indexByte], by simp, by simp, by simp [repL]⟩
    · rw [List.count_cons_of_ne e] at h
      obtain ⟨j, h1, h2, h3, h4⟩ := index_step x y r h
      rw [Lib.index_one] at h1
      refine ⟨j + 1, ?_, by simpa using h2, by rw [List.count_cons_of_ne e, h3]; rfl, ?_⟩
      · simp [Lib.indexByte, e, h1] <;> omega
      · have e2 : repL x y (c :: r) = c :: repL x y r := by unfold repL; rw [List.map_cons, if_neg e]
        rw [e2, h4]; rfl
theorem count_call (s : ByteArray) (c : UInt8) (w : World) : Calls Tryz.prog 115 #[.string s, .string ⟨#[c]⟩] w fun e w' => e = .returned (.int .i64 (s.data.toList.count c : Nat)) ∧ w' = w := by
  refine (Tryz.strings_Count_one s c w).mono fun e w' ⟨he, hw⟩ => ⟨?_, hw⟩
  rw [he]
  rfl
theorem count_notin (x : UInt8) (l : List UInt8) (h : l.count x = 0) : x ∉ l := fun hm => by have := List.count_pos_iff.2 hm; omega
set_option maxHeartbeats 4000000 in
set_option maxRecDepth 100000 in
theorem replace_one (s : ByteArray) (x y : UInt8) (w : World) (hs : s.size < 4294967281) :
    Calls Tryz.prog 132 #[.string s, .string ⟨#[x]⟩, .string ⟨#[y]⟩, .int .i64 (-1)] w fun e w' => e = .returned (.string ⟨(repL x y s.data.toList).toArray⟩) ∧ Below w.heap.size w w' := by
  have hsl : s.data.toList.length = s.size := by rw [Array.length_toList]; rfl
  by_cases hxy : x = y
  · subst hxy
    have hbeq : (x == x) = true := beq_self_eq_true _
    rw [repL_same]
    go_enter Tryz.func132, Tryz.ntmps132
    go_wp2
    go_ret
    exact ⟨by cases s; rfl, Below.refl _ _⟩
  · have hbeq : (x == y) = false := beq_eq_false_iff_ne.2 hxy
    obtain ⟨K, hK⟩ : ∃ K, s.data.toList.count x = K := ⟨_, rfl⟩
    have hC := count_call s x w
    rw [hK] at hC
    have hKl : K ≤ s.size := by rw [← hK, ← hsl]; exact List.count_le_length
    by_cases hK0 : K = 0
    · subst hK0
      have hr := repL_none x y _ (count_notin x _ hK)
      have HR := Lib.hid hr
      clear hr
      go_enter Tryz.func132, Tryz.ntmps132
      go_wp2_with (go_at_call 115; refine hC.mono ?_; rintro e w' ⟨rfl, rfl⟩)
      go_ret
      exact ⟨by rw [HR.out]; cases s; rfl, Below.refl _ _⟩
    · have hKz : ((K : Int) == 0) = false := beq_eq_false_iff_ne.2 (by omega)
      have hx1 : (⟨#[x]⟩ : ByteArray).size = 1 := rfl
      have hy1 : (⟨#[y]⟩ : ByteArray).size = 1 := rfl
      have HK := Lib.hid hK
      clear hK
      go_enter Tryz.func132, Tryz.ntmps132
      go_wp2_with (go_at_call 115; refine hC.mono ?_; rintro e w' ⟨rfl, rfl⟩)
      refine (Tryz.Builder_Grow_fresh w'.heap.size w'.heap.size s.size _ (Nat.le_refl _) (heap_alloc_new w' _) (by simp) (by omega)).mono ?_
      rintro e w1 ⟨rfl, hb0, hb1⟩
      have H1 := Lib.hid (Or.inr hb0 : Lib.IsBuilder 88 5 w'.heap.size w'.heap.size (Lib.byteCells []) w1)
      have Hb1 := Lib.hid (((Below.refl w'.heap.size w').alloc (Nat.le_refl _) _).trans hb1)
      clear hb0 hb1
      go_wp2_with fail
      go_loopw [11, 12, 53] (fun v11 _ v53 wx => ∃ (i start : Nat) (acc : List UInt8), v53 = .int .i64 (i : Int) ∧ v11 = .int .i64 (start : Int) ∧ i ≤ K ∧ start ≤ s.size ∧ (s.data.toList.drop start).count x + i = K ∧ acc.length = start ∧ acc ++ repL x y (s.data.toList.drop start) = repL x y s.data.toList ∧
        Lib.IsBuilder 88 5 w'.heap.size w'.heap.size (Lib.byteCells acc) wx ∧ Below w'.heap.size w' wx) (fun _ _ v53 _ => K - (intOf v53).toNat)
      case atStart => exact ⟨0, 0, [], rfl, rfl, Nat.zero_le _, Nat.zero_le _, by rw [List.drop_zero, HK.out]; rfl, rfl, by rw [List.drop_zero, List.nil_append], H1.out, Hb1.out⟩
      case round =>
        clear H1 Hb1
        obtain ⟨i, start, acc, rfl, rfl, hi, hst, hcn, hal, hac, hB, hW⟩ := hrel
        have hBw : w'.heap.size ≤ wr.heap.size := hW.size
        have c1 : (0 : Int) ≤ (start : Int) := by omega
        have c2 : (start : Int) ≤ (s.size : Int) := by omega
        have hcl : (Lib.byteCells acc).length = start := by rw [Lib.byteCells_length]; exact hal
        by_cases hit : i < K
        · obtain ⟨j, hj, hjl, hcj, hrj⟩ := index_step x y (s.data.toList.drop start) (by omega)
          rw [List.length_drop, hsl] at hjl
          rw [List.drop_drop] at hcj hrj
          have c3 : (start : Int) ≤ (start : Int) + (j : Int) := by omega
          have c4 : (start : Int) + (j : Int) ≤ (s.size : Int) := by omega
          have hnext : Lib.byteCells acc ++ Lib.strCells (s.extract start (start + j)) ++ Lib.strCells ⟨#[y]⟩ = Lib.byteCells (acc ++ (s.data.toList.drop start).take j ++ [y]) := by
            rw [Lib.strCells_eq, Lib.strCells_eq, Lib.extract_data, Nat.add_sub_cancel_left, ← Lib.byteCells_append, ← Lib.byteCells_append]
          have hlen2 : (acc ++ (s.data.toList.drop start).take j ++ [y]).length = start + (j + 1) := by
            rw [List.length_append, List.length_append, List.length_take, List.length_drop, hsl, hal]; simp; omega
          have hac2 : (acc ++ (s.data.toList.drop start).take j ++ [y]) ++ repL x y (s.data.toList.drop (start + (j + 1))) = repL x y s.data.toList := by
            rw [← hac, hrj]; simp only [List.append_assoc]
          have hix : Lib.indexB (s.extract start s.size) ⟨#[x]⟩ = (j : Int) := by
            show Lib.index (s.extract start s.size).data.toList [x] = _
            rw [Lib.extract_to_end]; exact hj
          have hes : (s.extract start (start + j)).size = j := by rw [ByteArray.size_extract]; omega
          have H1 := Lib.hid hB; have H2 := Lib.hid hW; have H3 := Lib.hid hnext; have H4 := Lib.hid hac2; have H5 := Lib.hid hcj; have H6 := Lib.hid hcn; have H7 := Lib.hid hlen2; have H8 := Lib.hid hcl; have H9 := Lib.hid hes
          clear hB hW hnext hac2 hcj hcn hlen2 hcl hac hj hrj hal hes
          go_wp2_with (first | (go_at_call 116; refine (split_index _ x _).mono ?_; rintro e w'' ⟨rfl, hw⟩; rw [hw, hix]))
          refine (Bld.writeString w'.heap.size w'.heap.size _ (s.extract start (start + j)) wr H1.out (by rw [H8.out, H9.out]; omega) hBw).mono ?_
          rintro e w3 ⟨rfl, h3, hb3, _⟩
          have hBw3 : w'.heap.size ≤ w3.heap.size := Nat.le_trans hBw hb3.size
          have H10 := Lib.hid h3
          have H11 := Lib.hid hb3
          clear h3 hb3
          go_wp2_with fail
          refine (Bld.writeString w'.heap.size w'.heap.size _ ⟨#[y]⟩ w3 H10.out (by rw [List.length_append, H8.out, Lib.strCells_length, H9.out]; show _ + 1 ≤ _; omega) hBw3).mono ?_
          rintro e w4 ⟨rfl, h4, hb4, _⟩
          rw [H3.out] at h4
          have H12 := Lib.hid h4
          have H13 := Lib.hid ((H2.out.trans H11.out).trans hb4)
          clear h4 hb4
          go_wp2
          exact ⟨⟨i + 1, start + (j + 1), _, rfl, by congr 1, by omega, by omega, by have := H5.out; have := H6.out; omega, H7.out, H4.out, H12.out, H13.out⟩, by simp [intOf]; omega⟩
        · have hge : decide (i < K) = false := decide_eq_false hit
          have hr0 : repL x y (s.data.toList.drop start) = s.data.toList.drop start := repL_none x y _ (count_notin x _ (by omega))
          rw [hr0] at hac
          have HA := Lib.hid hac; have H1 := Lib.hid hB; have H2 := Lib.hid hW; have H8 := Lib.hid hcl
          clear hac hB hW hcl hr0 hcn hal
          go_wp2_with fail
          refine (Bld.writeString w'.heap.size w'.heap.size _ _ wr H1.out (by rw [H8.out, ByteArray.size_extract]; omega) hBw).mono ?_
          rintro e w3 ⟨rfl, h3, hb3, _⟩
          rw [Lib.strCells_eq, Lib.extract_to_end, ← Lib.byteCells_append, HA.out] at h3
          have H3 := Lib.hid h3
          have Hb3 := Lib.hid (H2.out.trans hb3)
          have hBw3 : w'.heap.size ≤ w3.heap.size := Hb3.out.size
          clear h3 hb3
          go_wp2_with fail
          refine (Tryz.Builder_String_any w'.heap.size w'.heap.size _ w3 H3.out hBw3).mono ?_
          rintro e w5 ⟨rfl, hb5⟩
          have Hb5 := Lib.hid (Hb3.out.trans hb5)
          clear hb5
          go_wp2
          go_ret
          exact ⟨rfl, Hb5.out⟩
def strings_ReplaceAll.f (a0 a1 a2 : ByteArray) : Option ByteArray := if a1.size = 1 ∧ a2.size = 1 ∧ a0.size < 4294967281 then some ⟨(repL (a1.data.toList.headD 0) (a2.data.toList.headD 0) a0.data.toList).toArray⟩ else none
set_option maxHeartbeats 1000000 in
theorem strings_ReplaceAll.calls (a0 a1 a2 : ByteArray) (r1 : ByteArray) (w : World) (h : strings_ReplaceAll.f a0 a1 a2 = some r1) :
    Calls Tryz.prog 98 #[.string a0, .string a1, .string a2] w fun e w' => e = .returned (.string r1) ∧ Below w.heap.size w w' := by
  unfold strings_ReplaceAll.f at h
  split at h
  · rename_i hh
    obtain ⟨h1, h2, hs⟩ := hh
    obtain ⟨x, rfl⟩ := Lib.one_byte a1 h1
    obtain ⟨y, rfl⟩ := Lib.one_byte a2 h2
    obtain rfl := Option.some.inj h
    have HQ := Lib.hid (replace_one a0 x y w hs)
    go_enter Tryz.func98, Tryz.ntmps98
    go_wp2_with (go_at_call 132; refine (HQ.out).mono ?_; rintro e w' ⟨rfl, hb⟩)
    go_ret
    exact ⟨rfl, hb⟩
  · cases h
end Go.Proofs.YtmimipgmhgalaaaGreatDoor.PAll
end
section
namespace Go.Proofs.YtmimipgmhgalaaaGreatDoor.PAll
open Go.RowKit Go.Proofs.YtmimipgmhgalaaaGreatDoorW.PrintWords Go.Proofs.YtmimipgmhgalaaaGreatDoorW.PrintLast Go.Proofs.YtmimipgmhgalaaaGreatDoorW.PrintMore
attribute [local go_sem] max2_int min2_int max_two min_two max_three min_three max_four min_four
set_option linter.unusedVariables false
set_option linter.unusedSimpArgs false
def client_common.j0 : Nat → ByteArray → Bool → Option (ByteArray × Bool)
 | 0, _, _ => none
 | k + 1, x0, x15 => if x15 = true then (some ((⟨#[]⟩ : ByteArray), false)) else ((strings_TrimSuffix.f x0 (⟨#[61]⟩ : ByteArray)).bind fun t200 => ((strings_TrimSuffix.f t200 (⟨#[61]⟩ : ByteArray)).bind fun t201 => ((strings_ReplaceAll.f t201 (⟨#[43]⟩ : ByteArray) (⟨#[45]⟩ : ByteArray)).bind fun t202 => ((strings_ReplaceAll.f t202 (⟨#[47]⟩ : ByteArray) (⟨#[95]⟩ : ByteArray)).bind fun t203 => ((digest_FromBase64.f k t203).bind fun bt204 => (if bt204.2.1 = 0 then (some (strOfNums bt204.1, ((wrap64 ((wrap64 (Int.tdiv (wrap64 ((t203.size : Int) + 3)) 4)) * 4)) == (x0.size : Int)))) else (some (strOfNums bt204.1, false))))))))
def client_common.f (k : Nat) (a0 : ByteArray) : Option (ByteArray × Bool) := if ((a0.size : Int) % 4) = 0 then ((strings_ContainsAny.f a0 (⟨#[45, 95]⟩ : ByteArray)).bind fun t199 => (client_common.j0 k a0 t199)) else (client_common.j0 k a0 true)
set_option maxHeartbeats 8000000 in
set_option maxRecDepth 100000 in
theorem client_common.calls (k : Nat) (a0 : ByteArray) (r1 : ByteArray) (r2 : Bool) (w : World) (h : client_common.f k a0 = some (r1, r2)) :
 Calls Tryz.prog 63 #[.string a0] w fun e w' => e = .returned (.tuple #[.string r1, .bool r2]) ∧ Below w.heap.size w w' := by
 have HB := Aside0.mk (Below.refl w.heap.size w)
 have H : (if ((a0.size : Int) % 4) = 0 then ((strings_ContainsAny.f a0 (⟨#[45, 95]⟩ : ByteArray)).bind fun t199 => (client_common.j0 k a0 t199)) else (client_common.j0 k a0 true)) = some (r1, r2) := h
 clear h
 have HC2 := Aside0.mk H
 clear H
 go_enter Tryz.func63, Tryz.ntmps63
 go_upto_region 1 with (fail)
 go_cut [15] (fun v15 wc => ∃ (kq : Nat) (x15_1 : Bool), v15 = .bool x15_1 ∧ Aside0 (client_common.j0 kq a0 x15_1 = some (r1, r2)) ∧ Aside0 (kq ≤ k) ∧ Aside0 (Below w.heap.size w wc))
 case first =>
  have H := HC2.out
  clear HC2
  by_cases c3 : ((a0.size : Int) % 4) = 0
  · rw [if_pos c3] at H
    have c3b0 : (((a0.size : Int) % 4) == 0) = true := beq_iff_eq.mpr c3
    have c3b1 : (((a0.size : Int) % 4) != 0) = false := bne_eq_false_iff_eq.mpr c3
    clear c3
    replace H := Option.bind_eq_some_iff.mp H
    obtain ⟨t199, A40, H⟩ := H
    replace H : (client_common.j0 k a0 t199) = some (r1, r2) := H
    have A4 := Aside0.mk A40
    clear A40
    have H' := Aside0.mk H
    clear H
    go_wp2_with (first | (go_at_call 96; (with_reducible refine (strings_ContainsAny.calls a0 (⟨#[45, 95]⟩ : ByteArray) t199 _ A4.out).mono ?_); rintro e w5 ⟨rfl, hb⟩; replace HB := Aside0.mk (below_step HB.out hb); clear hb))
    go_meet
    case rel => exact ⟨_, (t199), rfl, H', ⟨by (omega)⟩, ⟨HB.out⟩⟩
  · rw [if_neg c3] at H
    have c3b0 : (((a0.size : Int) % 4) == 0) = false := beq_eq_false_iff_ne.mpr c3
    have c3b1 : (((a0.size : Int) % 4) != 0) = true := bne_iff_ne.mpr c3
    have H' := Aside0.mk H
    clear H
    go_wp2
    go_meet
    case rel => exact ⟨_, (true), rfl, H', ⟨by (omega)⟩, ⟨HB.out⟩⟩
 case rest =>
  clear HC2
  obtain ⟨kq, x15_1, rfl, HA, HJ1, HB⟩ := hcut
  cases kq with
  | zero => exact absurd HA.out (by simp [client_common.j0])
  | succ kj1 =>
   have H := HA.out
   clear HA
   simp only [client_common.j0] at H
   by_cases c6 : x15_1 = true
   · subst c6
     have H1 : (some ((⟨#[]⟩ : ByteArray), false)) = some (r1, r2) := by rw [if_pos rfl] at H; exact H
     clear H
     have H := H1
     clear H1
     simp only [Option.some.injEq, Prod.mk.injEq] at H
     obtain ⟨rfl, rfl⟩ := H
     go_wp2
     go_ret2
     exact ⟨by (rfl), by (with_reducible exact HB.out)⟩
   · replace c6 := Bool.eq_false_iff.mpr c6
     subst c6
     have H1 : ((strings_TrimSuffix.f a0 (⟨#[61]⟩ : ByteArray)).bind fun t200 => ((strings_TrimSuffix.f t200 (⟨#[61]⟩ : ByteArray)).bind fun t201 => ((strings_ReplaceAll.f t201 (⟨#[43]⟩ : ByteArray) (⟨#[45]⟩ : ByteArray)).bind fun t202 => ((strings_ReplaceAll.f t202 (⟨#[47]⟩ : ByteArray) (⟨#[95]⟩ : ByteArray)).bind fun t203 => ((digest_FromBase64.f kj1 t203).bind fun bt204 => (if bt204.2.1 = 0 then (some (strOfNums bt204.1, ((wrap64 ((wrap64 (Int.tdiv (wrap64 ((t203.size : Int) + 3)) 4)) * 4)) == (a0.size : Int)))) else (some (strOfNums bt204.1, false)))))))) = some (r1, r2) := by rw [if_neg (show ¬ (false = true) by decide)] at H; exact H
     clear H
     have H := H1
     clear H1
     replace H := Option.bind_eq_some_iff.mp H
     obtain ⟨t200, A70, H⟩ := H
     replace H : ((strings_TrimSuffix.f t200 (⟨#[61]⟩ : ByteArray)).bind fun t201 => ((strings_ReplaceAll.f t201 (⟨#[43]⟩ : ByteArray) (⟨#[45]⟩ : ByteArray)).bind fun t202 => ((strings_ReplaceAll.f t202 (⟨#[47]⟩ : ByteArray) (⟨#[95]⟩ : ByteArray)).bind fun t203 => ((digest_FromBase64.f kj1 t203).bind fun bt204 => (if bt204.2.1 = 0 then (some (strOfNums bt204.1, ((wrap64 ((wrap64 (Int.tdiv (wrap64 ((t203.size : Int) + 3)) 4)) * 4)) == (a0.size : Int)))) else (some (strOfNums bt204.1, false))))))) = some (r1, r2) := H
     have A7 := Aside0.mk A70
     clear A70
     replace H := Option.bind_eq_some_iff.mp H
     obtain ⟨t201, A80, H⟩ := H
     replace H : ((strings_ReplaceAll.f t201 (⟨#[43]⟩ : ByteArray) (⟨#[45]⟩ : ByteArray)).bind fun t202 => ((strings_ReplaceAll.f t202 (⟨#[47]⟩ : ByteArray) (⟨#[95]⟩ : ByteArray)).bind fun t203 => ((digest_FromBase64.f kj1 t203).bind fun bt204 => (if bt204.2.1 = 0 then (some (strOfNums bt204.1, ((wrap64 ((wrap64 (Int.tdiv (wrap64 ((t203.size : Int) + 3)) 4)) * 4)) == (a0.size : Int)))) else (some (strOfNums bt204.1, false)))))) = some (r1, r2) := H
     have A8 := Aside0.mk A80
     clear A80
     replace H := Option.bind_eq_some_iff.mp H
     obtain ⟨t202, A90, H⟩ := H
     replace H : ((strings_ReplaceAll.f t202 (⟨#[47]⟩ : ByteArray) (⟨#[95]⟩ : ByteArray)).bind fun t203 => ((digest_FromBase64.f kj1 t203).bind fun bt204 => (if bt204.2.1 = 0 then (some (strOfNums bt204.1, ((wrap64 ((wrap64 (Int.tdiv (wrap64 ((t203.size : Int) + 3)) 4)) * 4)) == (a0.size : Int)))) else (some (strOfNums bt204.1, false))))) = some (r1, r2) := H
     have A9 := Aside0.mk A90
     clear A90
     replace H := Option.bind_eq_some_iff.mp H
     obtain ⟨t203, A100, H⟩ := H
     replace H : ((digest_FromBase64.f kj1 t203).bind fun bt204 => (if bt204.2.1 = 0 then (some (strOfNums bt204.1, ((wrap64 ((wrap64 (Int.tdiv (wrap64 ((t203.size : Int) + 3)) 4)) * 4)) == (a0.size : Int)))) else (some (strOfNums bt204.1, false)))) = some (r1, r2) := H
     have A10 := Aside0.mk A100
     clear A100
     replace H := Option.bind_eq_some_iff.mp H
     obtain ⟨⟨t204, t205, t206⟩, A110, H⟩ := H
     replace H : (if t205 = 0 then (some (strOfNums t204, ((wrap64 ((wrap64 (Int.tdiv (wrap64 ((t203.size : Int) + 3)) 4)) * 4)) == (a0.size : Int)))) else (some (strOfNums t204, false))) = some (r1, r2) := H
     have A11 := Aside0.mk A110
     clear A110
     by_cases c12 : t205 = 0
     · rw [if_pos c12] at H
       have c12b0 : (t205 == 0) = true := beq_iff_eq.mpr c12
       have c12b1 : (t205 != 0) = false := bne_eq_false_iff_eq.mpr c12
       clear c12
       simp only [Option.some.injEq, Prod.mk.injEq] at H
       obtain ⟨rfl, rfl⟩ := H
       go_wp2_with (first | ((with_reducible refine gate_callee (f := 97) rfl ?_); refine goesL_ (some 17) rfl rfl Tryz.func97 (by kernel_rfl) rfl #[.string a0, .string (⟨#[61]⟩ : ByteArray)] rfl (by ((try simp only [List.map_toArray, List.map_cons, List.map_nil]); (rfl))) ?_; (with_reducible refine (strings_TrimSuffix.calls a0 (⟨#[61]⟩ : ByteArray) t200 _ A7.out).mono ?_); rintro e w13 ⟨rfl, hb⟩; refine ⟨_, rfl, ?_⟩; replace HB := Aside0.mk (below_step HB.out hb); clear hb) | ((with_reducible refine gate_callee (f := 97) rfl ?_); refine goesL_ (some 18) rfl rfl Tryz.func97 (by kernel_rfl) rfl #[.string t200, .string (⟨#[61]⟩ : ByteArray)] rfl (by ((try simp only [List.map_toArray, List.map_cons, List.map_nil]); (rfl))) ?_; (with_reducible refine (strings_TrimSuffix.calls t200 (⟨#[61]⟩ : ByteArray) t201 _ A8.out).mono ?_); rintro e w14 ⟨rfl, hb⟩; refine ⟨_, rfl, ?_⟩; replace HB := Aside0.mk (below_step HB.out hb); clear hb) | ((with_reducible refine gate_callee (f := 98) rfl ?_); refine goesL_ (some 20) rfl rfl Tryz.func98 (by kernel_rfl) rfl #[.string t201, .string (⟨#[43]⟩ : ByteArray), .string (⟨#[45]⟩ : ByteArray)] rfl (by ((try simp only [List.map_toArray, List.map_cons, List.map_nil]); (rfl))) ?_; (with_reducible refine (strings_ReplaceAll.calls t201 (⟨#[43]⟩ : ByteArray) (⟨#[45]⟩ : ByteArray) t202 _ A9.out).mono ?_); rintro e w15 ⟨rfl, hb⟩; refine ⟨_, rfl, ?_⟩; replace HB := Aside0.mk (below_step HB.out hb); clear hb) | ((with_reducible refine gate_callee (f := 98) rfl ?_); refine goesL_ (some 21) rfl rfl Tryz.func98 (by kernel_rfl) rfl #[.string t202, .string (⟨#[47]⟩ : ByteArray), .string (⟨#[95]⟩ : ByteArray)] rfl (by ((try simp only [List.map_toArray, List.map_cons, List.map_nil]); (rfl))) ?_; (with_reducible refine (strings_ReplaceAll.calls t202 (⟨#[47]⟩ : ByteArray) (⟨#[95]⟩ : ByteArray) t203 _ A10.out).mono ?_); rintro e w16 ⟨rfl, hb⟩; refine ⟨_, rfl, ?_⟩; replace HB := Aside0.mk (below_step HB.out hb); clear hb) | ((with_reducible refine gate_callee (f := 99) rfl ?_); refine goesL_ (some 24) rfl rfl Tryz.func99 (by kernel_rfl) rfl #[.string t203] rfl (by ((try simp only [List.map_toArray, List.map_cons, List.map_nil]); (rfl))) ?_; (with_reducible refine (digest_FromBase64.calls kj1 t203 t204 t205 t206 _ A11.out).mono ?_); rintro e w17 ⟨v207, rfl, ho0, hb⟩; refine ⟨_, rfl, ?_⟩; have HO208 := Aside0.mk (Kd.R_lower ho0 (below_size HB.out)); replace HB := Aside0.mk (below_step HB.out hb); clear hb ho0; have hcv18 := own_string (P := Tryz.prog) Tryz.underlying79 Tryz.underlying5 Tryz.underlying9 (Kd.own_of_R HO208.out)))
       go_ret2
       exact ⟨by (rfl), by (with_reducible exact HB.out)⟩
     · rw [if_neg c12] at H
       have c12b0 : (t205 == 0) = false := beq_eq_false_iff_ne.mpr c12
       have c12b1 : (t205 != 0) = true := bne_iff_ne.mpr c12
       simp only [Option.some.injEq, Prod.mk.injEq] at H
       obtain ⟨rfl, rfl⟩ := H
       go_wp2_with (first | ((with_reducible refine gate_callee (f := 97) rfl ?_); refine goesL_ (some 17) rfl rfl Tryz.func97 (by kernel_rfl) rfl #[.string a0, .string (⟨#[61]⟩ : ByteArray)] rfl (by ((try simp only [List.map_toArray, List.map_cons, List.map_nil]); (rfl))) ?_; (with_reducible refine (strings_TrimSuffix.calls a0 (⟨#[61]⟩ : ByteArray) t200 _ A7.out).mono ?_); rintro e w19 ⟨rfl, hb⟩; refine ⟨_, rfl, ?_⟩; replace HB := Aside0.mk (below_step HB.out hb); clear hb) | ((with_reducible refine gate_callee (f := 97) rfl ?_); refine goesL_ (some 18) rfl rfl Tryz.func97 (by kernel_rfl) rfl #[.string t200, .string (⟨#[61]⟩ : ByteArray)] rfl (by ((try simp only [List.map_toArray, List.map_cons, List.map_nil]); (rfl))) ?_; (with_reducible refine (strings_TrimSuffix.calls t200 (⟨#[61]⟩ : ByteArray) t201 _ A8.out).mono ?_); rintro e w20 ⟨rfl, hb⟩; refine ⟨_, rfl, ?_⟩; replace HB := Aside0.mk (below_step HB.out hb); clear hb) | ((with_reducible refine gate_callee (f := 98) rfl ?_); refine goesL_ (some 20) rfl rfl Tryz.func98 (by kernel_rfl) rfl #[.string t201, .string (⟨#[43]⟩ : ByteArray), .string (⟨#[45]⟩ : ByteArray)] rfl (by ((try simp only [List.map_toArray, List.map_cons, List.map_nil]); (rfl))) ?_; (with_reducible refine (strings_ReplaceAll.calls t201 (⟨#[43]⟩ : ByteArray) (⟨#[45]⟩ : ByteArray) t202 _ A9.out).mono ?_); rintro e w21 ⟨rfl, hb⟩; refine ⟨_, rfl, ?_⟩; replace HB := Aside0.mk (below_step HB.out hb); clear hb) | ((with_reducible refine gate_callee (f := 98) rfl ?_); refine goesL_ (some 21) rfl rfl Tryz.func98 (by kernel_rfl) rfl #[.string t202, .string (⟨#[47]⟩ : ByteArray), .string (⟨#[95]⟩ : ByteArray)] rfl (by ((try simp only [List.map_toArray, List.map_cons, List.map_nil]); (rfl))) ?_; (with_reducible refine (strings_ReplaceAll.calls t202 (⟨#[47]⟩ : ByteArray) (⟨#[95]⟩ : ByteArray) t203 _ A10.out).mono ?_); rintro e w22 ⟨rfl, hb⟩; refine ⟨_, rfl, ?_⟩; replace HB := Aside0.mk (below_step HB.out hb); clear hb) | ((with_reducible refine gate_callee (f := 99) rfl ?_); refine goesL_ (some 24) rfl rfl Tryz.func99 (by kernel_rfl) rfl #[.string t203] rfl (by ((try simp only [List.map_toArray, List.map_cons, List.map_nil]); (rfl))) ?_; (with_reducible refine (digest_FromBase64.calls kj1 t203 t204 t205 t206 _ A11.out).mono ?_); rintro e w23 ⟨v207, rfl, ho0, hb⟩; refine ⟨_, rfl, ?_⟩; have HO208 := Aside0.mk (Kd.R_lower ho0 (below_size HB.out)); replace HB := Aside0.mk (below_step HB.out hb); clear hb ho0; have hcv24 := own_string (P := Tryz.prog) Tryz.underlying79 Tryz.underlying5 Tryz.underlying9 (Kd.own_of_R HO208.out)))
       go_ret2
       exact ⟨by (rfl), by (with_reducible exact HB.out)⟩
def client_Basic.j0 : Nat → ByteArray → Bool → Option (ByteArray × ByteArray × Int)
 | 0, _, _ => none
 | k + 1, x0, x34 => if x34 = true then (some ((⟨#[]⟩ : ByteArray), (⟨#[]⟩ : ByteArray), 113)) else (if 5 ≤ (x0.size : Int) then ((strings_TrimLeft.f (x0.extract 5 x0.size) (⟨#[32]⟩ : ByteArray)).bind fun t210 => ((client_common.f k t210).bind fun bt211 => ((strings_Cut.f bt211.1 (⟨#[58]⟩ : ByteArray)).bind fun bt213 => ((urlform_Unescape.f bt213.1).bind fun bt216 => ((urlform_Unescape.f bt213.2.1).bind fun bt219 => (if bt211.2 = true then (if bt213.2.2 = true then (if bt216.2.1 = 0 then (if bt219.2.1 = 0 then (some (bt216.1, bt219.1, 0)) else (some ((⟨#[]⟩ : ByteArray), (⟨#[]⟩ : ByteArray), 113))) else (some ((⟨#[]⟩ : ByteArray), (⟨#[]⟩ : ByteArray), 113))) else (some ((⟨#[]⟩ : ByteArray), (⟨#[]⟩ : ByteArray), 113))) else (some ((⟨#[]⟩ : ByteArray), (⟨#[]⟩ : ByteArray), 113)))))))) else (none))
def client_Basic.f (k : Nat) (a0 : ByteArray) : Option (ByteArray × ByteArray × Int) := if (a0.size : Int) > 1024 then (client_Basic.j0 k a0 true) else (if (a0.size : Int) < 6 then (client_Basic.j0 k a0 true) else (if 0 ≤ 5 then (if 5 ≤ (a0.size : Int) then ((strings_EqualFold.f (a0.extract 0 5) (⟨#[98, 97, 115, 105, 99]⟩ : ByteArray)).bind fun t209 => (if t209 = true then (if 5 < (a0.size : Int) then (client_Basic.j0 k a0 ((bt a0 5) != 32)) else (none)) else (client_Basic.j0 k a0 true))) else (none)) else (none)))
set_option maxHeartbeats 8000000 in
set_option maxRecDepth 100000 in
theorem client_Basic.calls (k : Nat) (a0 : ByteArray) (r1 : ByteArray) (r2 : ByteArray) (r3 : Int) (w : World) (h : client_Basic.f k a0 = some (r1, r2, r3)) :
 Calls Tryz.prog 32 #[.string a0] w fun e w' => e = .returned (.tuple #[.string r1, .string r2, .int .i64 r3]) ∧ Below w.heap.size w w' := by
 have HB := Aside0.mk (Below.refl w.heap.size w)
 have H : (if (a0.size : Int) > 1024 then (client_Basic.j0 k a0 true) else (if (a0.size : Int) < 6 then (client_Basic.j0 k a0 true) else (if 0 ≤ 5 then (if 5 ≤ (a0.size : Int) then ((strings_EqualFold.f (a0.extract 0 5) (⟨#[98, 97, 115, 105, 99]⟩ : ByteArray)).bind fun t209 => (if t209 = true then (if 5 < (a0.size : Int) then (client_Basic.j0 k a0 ((bt a0 5) != 32)) else (none)) else (client_Basic.j0 k a0 true))) else (none)) else (none)))) = some (r1, r2, r3) := h
 clear h
 have HC2 := Aside0.mk H
 clear H
 go_enter Tryz.func32, Tryz.ntmps32
 go_upto_region 1 with (fail)
 go_cut [34] (fun v34 wc => ∃ (kq : Nat) (x34_1 : Bool), v34 = .bool x34_1 ∧ Aside0 (client_Basic.j0 kq a0 x34_1 = some (r1, r2, r3)) ∧ Aside0 (kq ≤ k) ∧ Aside0 (Below w.heap.size w wc))
 case first =>
  have H := HC2.out
  clear HC2
  by_cases c3 : (a0.size : Int) > 1024
  · rw [if_pos c3] at H
    have c3b0 : decide (1024 < (a0.size : Int)) = true := decide_eq_true c3
    have c3b1 : decide (1024 < a0.size) = true := decide_eq_true (by omega)
    clear c3
    have H' := Aside0.mk H
    clear H
    go_wp2
    go_meet
    case rel => exact ⟨_, (true), rfl, H', ⟨by (omega)⟩, ⟨HB.out⟩⟩
  · rw [if_neg c3] at H
    have c3b0 : decide (1024 < (a0.size : Int)) = false := decide_eq_false c3
    have c3b1 : decide (1024 < a0.size) = false := decide_eq_false (by omega)
    clear c3
    by_cases c4 : (a0.size : Int) < 6
    · rw [if_pos c4] at H
      have c4b0 : decide ((a0.size : Int) < 6) = true := decide_eq_true c4
      have c4b1 : decide (a0.size < 6) = true := decide_eq_true (by omega)
      clear c4
      have H' := Aside0.mk H
      clear H
      go_wp2
      go_meet
      case rel => exact ⟨_, (true), rfl, H', ⟨by (omega)⟩, ⟨HB.out⟩⟩
    · rw [if_neg c4] at H
      have c4b0 : decide ((a0.size : Int) < 6) = false := decide_eq_false c4
      have c4b1 : decide (a0.size < 6) = false := decide_eq_false (by omega)
      clear c4
      by_cases c5 : 0 ≤ 5
      · rw [if_pos c5] at H
        have c5b0 := eq_true c5
        have c5b1 : decide (0 ≤ 5) = true := decide_eq_true c5
        clear c5
        by_cases c6 : 5 ≤ (a0.size : Int)
        · rw [if_pos c6] at H
          have c6b0 := eq_true c6
          have c6b1 : decide (5 ≤ (a0.size : Int)) = true := decide_eq_true c6
          clear c6
          replace H := Option.bind_eq_some_iff.mp H
          obtain ⟨t209, A70, H⟩ := H
          replace H : (if t209 = true then (if 5 < (a0.size : Int) then (client_Basic.j0 k a0 ((bt a0 5) != 32)) else (none)) else (client_Basic.j0 k a0 true)) = some (r1, r2, r3) := H
          have A7 := Aside0.mk A70
          clear A70
          by_cases c8 : t209 = true
          · subst c8
            have H1 : (if 5 < (a0.size : Int) then (client_Basic.j0 k a0 ((bt a0 5) != 32)) else (none)) = some (r1, r2, r3) := by rw [if_pos rfl] at H; exact H
            clear H
            have H := H1
            clear H1
            by_cases c9 : 5 < (a0.size : Int)
            · rw [if_pos c9] at H
              have c9b0 : decide (5 < (a0.size : Int)) = true := decide_eq_true c9
              have c9b1 : decide (5 < a0.size) = true := decide_eq_true (by omega)
              clear c9
              have H' := Aside0.mk H
              clear H
              go_wp2_with (first | (go_at_call 62; (with_reducible refine (strings_EqualFold.calls (a0.extract 0 5) (⟨#[98, 97, 115, 105, 99]⟩ : ByteArray) true _ A7.out).mono ?_); rintro e w11 ⟨rfl, hb⟩; replace HB := Aside0.mk (below_step HB.out hb); clear hb; have p10 : 0 ≤ (5 : Int) := (by omega); have q10 : 5 < a0.size := (by have : (5 : Int) < (a0.size : Int) := of_decide_eq_true (by assumption); omega); have hx10 : ∀ h : 5 < a0.size, ((a0[5]'h).toNat : Int) = bt a0 5 := bt_at a0 5; clear p10; have qi10 : (5 < (a0.size : Int)) = True := eq_true (of_decide_eq_true (by assumption)); replace q10 := eq_true q10))
              go_meet
              case rel => exact ⟨_, (((bt a0 5) != 32)), rfl, H', ⟨by (omega)⟩, ⟨HB.out⟩⟩
            · rw [if_neg c9] at H
              exact absurd H (by simp)
          · replace c8 := Bool.eq_false_iff.mpr c8
            subst c8
            have H1 : (client_Basic.j0 k a0 true) = some (r1, r2, r3) := by rw [if_neg (show ¬ (false = true) by decide)] at H; exact H
            clear H
            have H := H1
            clear H1
            have H' := Aside0.mk H
            clear H
            go_wp2_with (first | (go_at_call 62; (with_reducible refine (strings_EqualFold.calls (a0.extract 0 5) (⟨#[98, 97, 115, 105, 99]⟩ : ByteArray) false _ A7.out).mono ?_); rintro e w12 ⟨rfl, hb⟩; replace HB := Aside0.mk (below_step HB.out hb); clear hb))
            go_meet
            case rel => exact ⟨_, (true), rfl, H', ⟨by (omega)⟩, ⟨HB.out⟩⟩
        · rw [if_neg c6] at H
          exact absurd H (by simp)
      · rw [if_neg c5] at H
        exact absurd H (by simp)
 case rest =>
  clear HC2
  obtain ⟨kq, x34_1, rfl, HA, HJ1, HB⟩ := hcut
  cases kq with
  | zero => exact absurd HA.out (by simp [client_Basic.j0])
  | succ kj1 =>
   have H := HA.out
   clear HA
   simp only [client_Basic.j0] at H
   by_cases c13 : x34_1 = true
   · subst c13
     have H1 : (some ((⟨#[]⟩ : ByteArray), (⟨#[]⟩ : ByteArray), 113)) = some (r1, r2, r3) := by rw [if_pos rfl] at H; exact H
     clear H
     have H := H1
     clear H1
     simp only [Option.some.injEq, Prod.mk.injEq] at H
     obtain ⟨rfl, rfl, rfl⟩ := H
     go_wp2
     go_ret3
     exact ⟨by (rfl), by (with_reducible exact HB.out)⟩
   · replace c13 := Bool.eq_false_iff.mpr c13
     subst c13
     have H1 : (if 5 ≤ (a0.size : Int) then ((strings_TrimLeft.f (a0.extract 5 a0.size) (⟨#[32]⟩ : ByteArray)).bind fun t210 => ((client_common.f kj1 t210).bind fun bt211 => ((strings_Cut.f bt211.1 (⟨#[58]⟩ : ByteArray)).bind fun bt213 => ((urlform_Unescape.f bt213.1).bind fun bt216 => ((urlform_Unescape.f bt213.2.1).bind fun bt219 => (if bt211.2 = true then (if bt213.2.2 = true then (if bt216.2.1 = 0 then (if bt219.2.1 = 0 then (some (bt216.1, bt219.1, 0)) else (some ((⟨#[]⟩ : ByteArray), (⟨#[]⟩ : ByteArray), 113))) else (some ((⟨#[]⟩ : ByteArray), (⟨#[]⟩ : ByteArray), 113))) else (some ((⟨#[]⟩ : ByteArray), (⟨#[]⟩ : ByteArray), 113))) else (some ((⟨#[]⟩ : ByteArray), (⟨#[]⟩ : ByteArray), 113)))))))) else (none)) = some (r1, r2, r3) := by rw [if_neg (show ¬ (false = true) by decide)] at H; exact H
     clear H
     have H := H1
     clear H1
     by_cases c14 : 5 ≤ (a0.size : Int)
     · rw [if_pos c14] at H
       have c14b0 := eq_true c14
       have c14b1 : decide (5 ≤ (a0.size : Int)) = true := decide_eq_true c14
       clear c14
       replace H := Option.bind_eq_some_iff.mp H
       obtain ⟨t210, A150, H⟩ := H
       replace H : ((client_common.f kj1 t210).bind fun bt211 => ((strings_Cut.f bt211.1 (⟨#[58]⟩ : ByteArray)).bind fun bt213 => ((urlform_Unescape.f bt213.1).bind fun bt216 => ((urlform_Unescape.f bt213.2.1).bind fun bt219 => (if bt211.2 = true then (if bt213.2.2 = true then (if bt216.2.1 = 0 then (if bt219.2.1 = 0 then (some (bt216.1, bt219.1, 0)) else (some ((⟨#[]⟩ : ByteArray), (⟨#[]⟩ : ByteArray), 113))) else (some ((⟨#[]⟩ : ByteArray), (⟨#[]⟩ : ByteArray), 113))) else (some ((⟨#[]⟩ : ByteArray), (⟨#[]⟩ : ByteArray), 113))) else (some ((⟨#[]⟩ : ByteArray), (⟨#[]⟩ : ByteArray), 113))))))) = some (r1, r2, r3) := H
       have A15 := Aside0.mk A150
       clear A150
       replace H := Option.bind_eq_some_iff.mp H
       obtain ⟨⟨t211, t212⟩, A160, H⟩ := H
       replace H : ((strings_Cut.f t211 (⟨#[58]⟩ : ByteArray)).bind fun bt213 => ((urlform_Unescape.f bt213.1).bind fun bt216 => ((urlform_Unescape.f bt213.2.1).bind fun bt219 => (if t212 = true then (if bt213.2.2 = true then (if bt216.2.1 = 0 then (if bt219.2.1 = 0 then (some (bt216.1, bt219.1, 0)) else (some ((⟨#[]⟩ : ByteArray), (⟨#[]⟩ : ByteArray), 113))) else (some ((⟨#[]⟩ : ByteArray), (⟨#[]⟩ : ByteArray), 113))) else (some ((⟨#[]⟩ : ByteArray), (⟨#[]⟩ : ByteArray), 113))) else (some ((⟨#[]⟩ : ByteArray), (⟨#[]⟩ : ByteArray), 113)))))) = some (r1, r2, r3) := H
       have A16 := Aside0.mk A160
       clear A160
       replace H := Option.bind_eq_some_iff.mp H
       obtain ⟨⟨t213, t214, t215⟩, A170, H⟩ := H
       replace H : ((urlform_Unescape.f t213).bind fun bt216 => ((urlform_Unescape.f t214).bind fun bt219 => (if t212 = true then (if t215 = true then (if bt216.2.1 = 0 then (if bt219.2.1 = 0 then (some (bt216.1, bt219.1, 0)) else (some ((⟨#[]⟩ : ByteArray), (⟨#[]⟩ : ByteArray), 113))) else (some ((⟨#[]⟩ : ByteArray), (⟨#[]⟩ : ByteArray), 113))) else (some ((⟨#[]⟩ : ByteArray), (⟨#[]⟩ : ByteArray), 113))) else (some ((⟨#[]⟩ : ByteArray), (⟨#[]⟩ : ByteArray), 113))))) = some (r1, r2, r3) := H
       have A17 := Aside0.mk A170
       clear A170
       replace H := Option.bind_eq_some_iff.mp H
       obtain ⟨⟨t216, t217, t218⟩, A180, H⟩ := H
       replace H : ((urlform_Unescape.f t214).bind fun bt219 => (if t212 = true then (if t215 = true then (if t217 = 0 then (if bt219.2.1 = 0 then (some (t216, bt219.1, 0)) else (some ((⟨#[]⟩ : ByteArray), (⟨#[]⟩ : ByteArray), 113))) else (some ((⟨#[]⟩ : ByteArray), (⟨#[]⟩ : ByteArray), 113))) else (some ((⟨#[]⟩ : ByteArray), (⟨#[]⟩ : ByteArray), 113))) else (some ((⟨#[]⟩ : ByteArray), (⟨#[]⟩ : ByteArray), 113)))) = some (r1, r2, r3) := H
       have A18 := Aside0.mk A180
       clear A180
       replace H := Option.bind_eq_some_iff.mp H
       obtain ⟨⟨t219, t220, t221⟩, A190, H⟩ := H
       replace H : (if t212 = true then (if t215 = true then (if t217 = 0 then (if t220 = 0 then (some (t216, t219, 0)) else (some ((⟨#[]⟩ : ByteArray), (⟨#[]⟩ : ByteArray), 113))) else (some ((⟨#[]⟩ : ByteArray), (⟨#[]⟩ : ByteArray), 113))) else (some ((⟨#[]⟩ : ByteArray), (⟨#[]⟩ : ByteArray), 113))) else (some ((⟨#[]⟩ : ByteArray), (⟨#[]⟩ : ByteArray), 113))) = some (r1, r2, r3) := H
       have A19 := Aside0.mk A190
       clear A190
       by_cases c20 : t212 = true
       · subst c20
         have H1 : (if t215 = true then (if t217 = 0 then (if t220 = 0 then (some (t216, t219, 0)) else (some ((⟨#[]⟩ : ByteArray), (⟨#[]⟩ : ByteArray), 113))) else (some ((⟨#[]⟩ : ByteArray), (⟨#[]⟩ : ByteArray), 113))) else (some ((⟨#[]⟩ : ByteArray), (⟨#[]⟩ : ByteArray), 113))) = some (r1, r2, r3) := by rw [if_pos rfl] at H; exact H
         clear H
         have H := H1
         clear H1
         by_cases c21 : t215 = true
         · subst c21
           have H1 : (if t217 = 0 then (if t220 = 0 then (some (t216, t219, 0)) else (some ((⟨#[]⟩ : ByteArray), (⟨#[]⟩ : ByteArray), 113))) else (some ((⟨#[]⟩ : ByteArray), (⟨#[]⟩ : ByteArray), 113))) = some (r1, r2, r3) := by rw [if_pos rfl] at H; exact H
           clear H
           have H := H1
           clear H1
           by_cases c22 : t217 = 0
           · rw [if_pos c22] at H
             have c22b0 : (t217 == 0) = true := beq_iff_eq.mpr c22
             have c22b1 : (t217 != 0) = false := bne_eq_false_iff_eq.mpr c22
             clear c22
             by_cases c23 : t220 = 0
             · rw [if_pos c23] at H
               have c23b0 : (t220 == 0) = true := beq_iff_eq.mpr c23
               have c23b1 : (t220 != 0) = false := bne_eq_false_iff_eq.mpr c23
               clear c23
               simp only [Option.some.injEq, Prod.mk.injEq] at H
               obtain ⟨rfl, rfl, rfl⟩ := H
               go_wp2_with (first | ((with_reducible refine gate_callee (f := 64) rfl ?_); refine goesL_ (some 38) rfl rfl Tryz.func64 (by kernel_rfl) rfl #[.string (a0.extract 5 a0.size), .string (⟨#[32]⟩ : ByteArray)] rfl (by ((try simp only [List.map_toArray, List.map_cons, List.map_nil]); (rfl))) ?_; (with_reducible refine (strings_TrimLeft.calls (a0.extract 5 a0.size) (⟨#[32]⟩ : ByteArray) t210 _ A15.out).mono ?_); rintro e w24 ⟨rfl, hb⟩; refine ⟨_, rfl, ?_⟩; replace HB := Aside0.mk (below_step HB.out hb); clear hb) | ((with_reducible refine gate_callee (f := 63) rfl ?_); refine goesL_ (some 39) rfl rfl Tryz.func63 (by kernel_rfl) rfl #[.string t210] rfl (by ((try simp only [List.map_toArray, List.map_cons, List.map_nil]); (rfl))) ?_; (with_reducible refine (client_common.calls kj1 t210 t211 true _ A16.out).mono ?_); rintro e w25 ⟨rfl, hb⟩; refine ⟨_, rfl, ?_⟩; replace HB := Aside0.mk (below_step HB.out hb); clear hb) | ((with_reducible refine gate_callee (f := 65) rfl ?_); refine goesL_ (some 44) rfl rfl Tryz.func65 (by kernel_rfl) rfl #[.string t211, .string (⟨#[58]⟩ : ByteArray)] rfl (by ((try simp only [List.map_toArray, List.map_cons, List.map_nil]); (rfl))) ?_; (with_reducible refine (strings_Cut.calls t211 (⟨#[58]⟩ : ByteArray) t213 t214 true _ A17.out).mono ?_); rintro e w26 ⟨rfl, hb⟩; refine ⟨_, rfl, ?_⟩; replace HB := Aside0.mk (below_step HB.out hb); clear hb) | ((with_reducible refine gate_callee (f := 66) rfl ?_); refine goesL_ (some 50) rfl rfl Tryz.func66 (by kernel_rfl) rfl #[.string t213] rfl (by ((try simp only [List.map_toArray, List.map_cons, List.map_nil]); (rfl))) ?_; (with_reducible refine (urlform_Unescape.calls t213 t216 t217 t218 _ A18.out).mono ?_); rintro e w27 ⟨rfl, hb⟩; refine ⟨_, rfl, ?_⟩; replace HB := Aside0.mk (below_step HB.out hb); clear hb) | ((with_reducible refine gate_callee (f := 66) rfl ?_); refine goesL_ (some 56) rfl rfl Tryz.func66 (by kernel_rfl) rfl #[.string t214] rfl (by ((try simp only [List.map_toArray, List.map_cons, List.map_nil]); (rfl))) ?_; (with_reducible refine (urlform_Unescape.calls t214 t219 t220 t221 _ A19.out).mono ?_); rintro e w28 ⟨rfl, hb⟩; refine ⟨_, rfl, ?_⟩; replace HB := Aside0.mk (below_step HB.out hb); clear hb))
               go_ret3
               exact ⟨by (rfl), by (with_reducible exact HB.out)⟩
             · rw [if_neg c23] at H
               have c23b0 : (t220 == 0) = false := beq_eq_false_iff_ne.mpr c23
               have c23b1 : (t220 != 0) = true := bne_iff_ne.mpr c23
               simp only [Option.some.injEq, Prod.mk.injEq] at H
               obtain ⟨rfl, rfl, rfl⟩ := H
               go_wp2_with (first | ((with_reducible refine gate_callee (f := 64) rfl ?_); refine goesL_ (some 38) rfl rfl Tryz.func64 (by kernel_rfl) rfl #[.string (a0.extract 5 a0.size), .string (⟨#[32]⟩ : ByteArray)] rfl (by ((try simp only [List.map_toArray, List.map_cons, List.map_nil]); (rfl))) ?_; (with_reducible refine (strings_TrimLeft.calls (a0.extract 5 a0.size) (⟨#[32]⟩ : ByteArray) t210 _ A15.out).mono ?_); rintro e w29 ⟨rfl, hb⟩; refine ⟨_, rfl, ?_⟩; replace HB := Aside0.mk (below_step HB.out hb); clear hb) | ((with_reducible refine gate_callee (f := 63) rfl ?_); refine goesL_ (some 39) rfl rfl Tryz.func63 (by kernel_rfl) rfl #[.string t210] rfl (by ((try simp only [List.map_toArray, List.map_cons, List.map_nil]); (rfl))) ?_; (with_reducible refine (client_common.calls kj1 t210 t211 true _ A16.out).mono ?_); rintro e w30 ⟨rfl, hb⟩; refine ⟨_, rfl, ?_⟩; replace HB := Aside0.mk (below_step HB.out hb); clear hb) | ((with_reducible refine gate_callee (f := 65) rfl ?_); refine goesL_ (some 44) rfl rfl Tryz.func65 (by kernel_rfl) rfl #[.string t211, .string (⟨#[58]⟩ : ByteArray)] rfl (by ((try simp only [List.map_toArray, List.map_cons, List.map_nil]); (rfl))) ?_; (with_reducible refine (strings_Cut.calls t211 (⟨#[58]⟩ : ByteArray) t213 t214 true _ A17.out).mono ?_); rintro e w31 ⟨rfl, hb⟩; refine ⟨_, rfl, ?_⟩; replace HB := Aside0.mk (below_step HB.out hb); clear hb) | ((with_reducible refine gate_callee (f := 66) rfl ?_); refine goesL_ (some 50) rfl rfl Tryz.func66 (by kernel_rfl) rfl #[.string t213] rfl (by ((try simp only [List.map_toArray, List.map_cons, List.map_nil]); (rfl))) ?_; (with_reducible refine (urlform_Unescape.calls t213 t216 t217 t218 _ A18.out).mono ?_); rintro e w32 ⟨rfl, hb⟩; refine ⟨_, rfl, ?_⟩; replace HB := Aside0.mk (below_step HB.out hb); clear hb) | ((with_reducible refine gate_callee (f := 66) rfl ?_); refine goesL_ (some 56) rfl rfl Tryz.func66 (by kernel_rfl) rfl #[.string t214] rfl (by ((try simp only [List.map_toArray, List.map_cons, List.map_nil]); (rfl))) ?_; (with_reducible refine (urlform_Unescape.calls t214 t219 t220 t221 _ A19.out).mono ?_); rintro e w33 ⟨rfl, hb⟩; refine ⟨_, rfl, ?_⟩; replace HB := Aside0.mk (below_step HB.out hb); clear hb))
               go_ret3
               exact ⟨by (rfl), by (with_reducible exact HB.out)⟩
           · rw [if_neg c22] at H
             have c22b0 : (t217 == 0) = false := beq_eq_false_iff_ne.mpr c22
             have c22b1 : (t217 != 0) = true := bne_iff_ne.mpr c22
             simp only [Option.some.injEq, Prod.mk.injEq] at H
             obtain ⟨rfl, rfl, rfl⟩ := H
             go_wp2_with (first | ((with_reducible refine gate_callee (f := 64) rfl ?_); refine goesL_ (some 38) rfl rfl Tryz.func64 (by kernel_rfl) rfl #[.string (a0.extract 5 a0.size), .string (⟨#[32]⟩ : ByteArray)] rfl (by ((try simp only [List.map_toArray, List.map_cons, List.map_nil]); (rfl))) ?_; (with_reducible refine (strings_TrimLeft.calls (a0.extract 5 a0.size) (⟨#[32]⟩ : ByteArray) t210 _ A15.out).mono ?_); rintro e w34 ⟨rfl, hb⟩; refine ⟨_, rfl, ?_⟩; replace HB := Aside0.mk (below_step HB.out hb); clear hb) | ((with_reducible refine gate_callee (f := 63) rfl ?_); refine goesL_ (some 39) rfl rfl Tryz.func63 (by kernel_rfl) rfl #[.string t210] rfl (by ((try simp only [List.map_toArray, List.map_cons, List.map_nil]); (rfl))) ?_; (with_reducible refine (client_common.calls kj1 t210 t211 true _ A16.out).mono ?_); rintro e w35 ⟨rfl, hb⟩; refine ⟨_, rfl, ?_⟩; replace HB := Aside0.mk (below_step HB.out hb); clear hb) | ((with_reducible refine gate_callee (f := 65) rfl ?_); refine goesL_ (some 44) rfl rfl Tryz.func65 (by kernel_rfl) rfl #[.string t211, .string (⟨#[58]⟩ : ByteArray)] rfl (by ((try simp only [List.map_toArray, List.map_cons, List.map_nil]); (rfl))) ?_; (with_reducible refine (strings_Cut.calls t211 (⟨#[58]⟩ : ByteArray) t213 t214 true _ A17.out).mono ?_); rintro e w36 ⟨rfl, hb⟩; refine ⟨_, rfl, ?_⟩; replace HB := Aside0.mk (below_step HB.out hb); clear hb) | ((with_reducible refine gate_callee (f := 66) rfl ?_); refine goesL_ (some 50) rfl rfl Tryz.func66 (by kernel_rfl) rfl #[.string t213] rfl (by ((try simp only [List.map_toArray, List.map_cons, List.map_nil]); (rfl))) ?_; (with_reducible refine (urlform_Unescape.calls t213 t216 t217 t218 _ A18.out).mono ?_); rintro e w37 ⟨rfl, hb⟩; refine ⟨_, rfl, ?_⟩; replace HB := Aside0.mk (below_step HB.out hb); clear hb) | ((with_reducible refine gate_callee (f := 66) rfl ?_); refine goesL_ (some 56) rfl rfl Tryz.func66 (by kernel_rfl) rfl #[.string t214] rfl (by ((try simp only [List.map_toArray, List.map_cons, List.map_nil]); (rfl))) ?_; (with_reducible refine (urlform_Unescape.calls t214 t219 t220 t221 _ A19.out).mono ?_); rintro e w38 ⟨rfl, hb⟩; refine ⟨_, rfl, ?_⟩; replace HB := Aside0.mk (below_step HB.out hb); clear hb))
             go_ret3
             exact ⟨by (rfl), by (with_reducible exact HB.out)⟩
         · replace c21 := Bool.eq_false_iff.mpr c21
           subst c21
           have H1 : (some ((⟨#[]⟩ : ByteArray), (⟨#[]⟩ : ByteArray), 113)) = some (r1, r2, r3) := by rw [if_neg (show ¬ (false = true) by decide)] at H; exact H
           clear H
           have H := H1
           clear H1
           simp only [Option.some.injEq, Prod.mk.injEq] at H
           obtain ⟨rfl, rfl, rfl⟩ := H
           go_wp2_with (first | ((with_reducible refine gate_callee (f := 64) rfl ?_); refine goesL_ (some 38) rfl rfl Tryz.func64 (by kernel_rfl) rfl #[.string (a0.extract 5 a0.size), .string (⟨#[32]⟩ : ByteArray)] rfl (by ((try simp only [List.map_toArray, List.map_cons, List.map_nil]); (rfl))) ?_; (with_reducible refine (strings_TrimLeft.calls (a0.extract 5 a0.size) (⟨#[32]⟩ : ByteArray) t210 _ A15.out).mono ?_); rintro e w39 ⟨rfl, hb⟩; refine ⟨_, rfl, ?_⟩; replace HB := Aside0.mk (below_step HB.out hb); clear hb) | ((with_reducible refine gate_callee (f := 63) rfl ?_); refine goesL_ (some 39) rfl rfl Tryz.func63 (by kernel_rfl) rfl #[.string t210] rfl (by ((try simp only [List.map_toArray, List.map_cons, List.map_nil]); (rfl))) ?_; (with_reducible refine (client_common.calls kj1 t210 t211 true _ A16.out).mono ?_); rintro e w40 ⟨rfl, hb⟩; refine ⟨_, rfl, ?_⟩; replace HB := Aside0.mk (below_step HB.out hb); clear hb) | ((with_reducible refine gate_callee (f := 65) rfl ?_); refine goesL_ (some 44) rfl rfl Tryz.func65 (by kernel_rfl) rfl #[.string t211, .string (⟨#[58]⟩ : ByteArray)] rfl (by ((try simp only [List.map_toArray, List.map_cons, List.map_nil]); (rfl))) ?_; (with_reducible refine (strings_Cut.calls t211 (⟨#[58]⟩ : ByteArray) t213 t214 false _ A17.out).mono ?_); rintro e w41 ⟨rfl, hb⟩; refine ⟨_, rfl, ?_⟩; replace HB := Aside0.mk (below_step HB.out hb); clear hb) | ((with_reducible refine gate_callee (f := 66) rfl ?_); refine goesL_ (some 50) rfl rfl Tryz.func66 (by kernel_rfl) rfl #[.string t213] rfl (by ((try simp only [List.map_toArray, List.map_cons, List.map_nil]); (rfl))) ?_; (with_reducible refine (urlform_Unescape.calls t213 t216 t217 t218 _ A18.out).mono ?_); rintro e w42 ⟨rfl, hb⟩; refine ⟨_, rfl, ?_⟩; replace HB := Aside0.mk (below_step HB.out hb); clear hb) | ((with_reducible refine gate_callee (f := 66) rfl ?_); refine goesL_ (some 56) rfl rfl Tryz.func66 (by kernel_rfl) rfl #[.string t214] rfl (by ((try simp only [List.map_toArray, List.map_cons, List.map_nil]); (rfl))) ?_; (with_reducible refine (urlform_Unescape.calls t214 t219 t220 t221 _ A19.out).mono ?_); rintro e w43 ⟨rfl, hb⟩; refine ⟨_, rfl, ?_⟩; replace HB := Aside0.mk (below_step HB.out hb); clear hb))
           go_ret3
           exact ⟨by (rfl), by (with_reducible exact HB.out)⟩
       · replace c20 := Bool.eq_false_iff.mpr c20
         subst c20
         have H1 : (some ((⟨#[]⟩ : ByteArray), (⟨#[]⟩ : ByteArray), 113)) = some (r1, r2, r3) := by rw [if_neg (show ¬ (false = true) by decide)] at H; exact H
         clear H
         have H := H1
         clear H1
         simp only [Option.some.injEq, Prod.mk.injEq] at H
         obtain ⟨rfl, rfl, rfl⟩ := H
         go_wp2_with (first | ((with_reducible refine gate_callee (f := 64) rfl ?_); refine goesL_ (some 38) rfl rfl Tryz.func64 (by kernel_rfl) rfl #[.string (a0.extract 5 a0.size), .string (⟨#[32]⟩ : ByteArray)] rfl (by ((try simp only [List.map_toArray, List.map_cons, List.map_nil]); (rfl))) ?_; (with_reducible refine (strings_TrimLeft.calls (a0.extract 5 a0.size) (⟨#[32]⟩ : ByteArray) t210 _ A15.out).mono ?_); rintro e w44 ⟨rfl, hb⟩; refine ⟨_, rfl, ?_⟩; replace HB := Aside0.mk (below_step HB.out hb); clear hb) | ((with_reducible refine gate_callee (f := 63) rfl ?_); refine goesL_ (some 39) rfl rfl Tryz.func63 (by kernel_rfl) rfl #[.string t210] rfl (by ((try simp only [List.map_toArray, List.map_cons, List.map_nil]); (rfl))) ?_; (with_reducible refine (client_common.calls kj1 t210 t211 false _ A16.out).mono ?_); rintro e w45 ⟨rfl, hb⟩; refine ⟨_, rfl, ?_⟩; replace HB := Aside0.mk (below_step HB.out hb); clear hb) | ((with_reducible refine gate_callee (f := 65) rfl ?_); refine goesL_ (some 44) rfl rfl Tryz.func65 (by kernel_rfl) rfl #[.string t211, .string (⟨#[58]⟩ : ByteArray)] rfl (by ((try simp only [List.map_toArray, List.map_cons, List.map_nil]); (rfl))) ?_; (with_reducible refine (strings_Cut.calls t211 (⟨#[58]⟩ : ByteArray) t213 t214 t215 _ A17.out).mono ?_); rintro e w46 ⟨rfl, hb⟩; refine ⟨_, rfl, ?_⟩; replace HB := Aside0.mk (below_step HB.out hb); clear hb) | ((with_reducible refine gate_callee (f := 66) rfl ?_); refine goesL_ (some 50) rfl rfl Tryz.func66 (by kernel_rfl) rfl #[.string t213] rfl (by ((try simp only [List.map_toArray, List.map_cons, List.map_nil]); (rfl))) ?_; (with_reducible refine (urlform_Unescape.calls t213 t216 t217 t218 _ A18.out).mono ?_); rintro e w47 ⟨rfl, hb⟩; refine ⟨_, rfl, ?_⟩; replace HB := Aside0.mk (below_step HB.out hb); clear hb) | ((with_reducible refine gate_callee (f := 66) rfl ?_); refine goesL_ (some 56) rfl rfl Tryz.func66 (by kernel_rfl) rfl #[.string t214] rfl (by ((try simp only [List.map_toArray, List.map_cons, List.map_nil]); (rfl))) ?_; (with_reducible refine (urlform_Unescape.calls t214 t219 t220 t221 _ A19.out).mono ?_); rintro e w48 ⟨rfl, hb⟩; refine ⟨_, rfl, ?_⟩; replace HB := Aside0.mk (below_step HB.out hb); clear hb))
         go_ret3
         exact ⟨by (rfl), by (with_reducible exact HB.out)⟩
     · rw [if_neg c14] at H
       exact absurd H (by simp)
end Go.Proofs.YtmimipgmhgalaaaGreatDoor.PAll
end
section
namespace Go.Proofs.YtmimipgmhgalaaaGreatDoor.PAll
open Go.RowKit Go.Proofs.YtmimipgmhgalaaaGreatDoorW.PrintWords Go.Proofs.YtmimipgmhgalaaaGreatDoorW.PrintLast Go.Proofs.YtmimipgmhgalaaaGreatDoorW.PrintMore
attribute [local go_sem] max2_int min2_int max_two min_two max_three min_three max_four min_four
set_option linter.unusedVariables false
set_option linter.unusedSimpArgs false
def wicketlaw11_ClientBasics.f (k : Nat) (a0 : ByteArray) : Option (Bool) := (client_Basic.f k a0).bind fun bt752 => ((wicketref11_Basic.f k a0).bind fun bt755 => (if bt752.1.toList = bt755.1.toList then (if bt752.2.1.toList = bt755.2.1.toList then ((wicketlaw11_num.f bt752.2.2).bind fun t758 => (if t758 = bt755.2.2 then ((wicketlaw11_live.f).bind fun t759 => (some t759)) else (some false))) else (some false)) else (some false)))
def wicketlaw11_ClientBasics.Pure : Prop := ∀ (a0 : ByteArray), a0.size ≤ 140737488351232 → ∃ k, wicketlaw11_ClientBasics.f k a0 = some true
end Go.Proofs.YtmimipgmhgalaaaGreatDoor.PAll
end
