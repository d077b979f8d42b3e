/-
  Part 5 of what the proof of ClientShows leans on: words of the print, walks of functions and plain laws; put together by pack.py, a program of this session.
-/
import Derived.Shelf.Strings.Builder1
import Derived.Shelf.Strings.Builder2
import Derived.Shelf.Strings.OnBuilder
import Derived.Shelf.Strings.Trim
import Derived.Shelf.Small.Utf8
import Derived.Shelf.Small.Strs
import Derived.Shelf.Strings.BuilderF
import Derived.Shelf.Strings.BuilderK
import Derived.Shelf.Strings.Builder2Cap
import Derived.Shelf.Strings.Search1
import Derived.Shelf.Strings.Search2
import Derived.Shelf.Strings.Search3
import Derived.Shelf.Strings.Cut
import Derived.Shelf.Strings.Count
import Derived.Shelf.LaysM
import Derived.Shelf.Strings.Shaped
import Derived.Shelf.Sort.Plain
import Derived.Shelf.Strings.Prefix
import Derived.Shelf.Strings.Split
import Derived.Shelf.Strings.Replace
import Derived.Shelf.Strings.Fold
import Derived.Shelf.Strings.SplitShaped
import Derived.Shelf.Unicode.Decode
import Derived.Shelf.Strings.Runes
import Derived.Shelf.Strings.IndexAny
import Derived.Shelf.Strings.AsciiSet
import Derived.Shelf.Strings.IndexAnyAll
import Derived.Shelf.Unicode.DecodeSlow
import Derived.Shelf.Unicode.DecodeAny
import Derived.Shelf.Unicode.CaseLookup
import Derived.Shelf.Unicode.CaseConvert
import Derived.Shelf.Strings.BuilderCap
import Derived.Shelf.Slices.Turned
import Derived.Shelf.Slices.Equal
import Derived.Ground.Names2Prog
import Derived.Shelf.Slices.Clone
import Derived.Shelf.Slices.CompactS
import Derived.Shelf.Slices.In.SortNone
import Derived.Shelf.Slices.Empties2
import Derived.Test.YtmimipgmhgalaaaGreatDoorProg
import Derived.Laws.Runes
import Derived.Lib.OthersKept
import Derived.Lib.MapLaws
import Derived.Lib.Hide
import Derived.WalkKit
import Derived.Deep.LoopGhost
import Derived.Deep.QuietTactic
import Derived.BigQuiet
import Derived.RegionTactic
import Derived.IntWalk
import Derived.Lib.LaidU8
import Derived.ScopeJumps
import Derived.WalkMore
import Derived.Lib.IndexMore
import Derived.Lib.SplitLaws
import Derived.Test.YtmimipgmhgalaaaGreatDoorRows
import Derived.ProofKit
import Derived.SizedLaws
import Derived.Test.YtmimipgmhgalaaaGreatDoorTie
import Derived.Lib.LaidTab
import Derived.Laws.BitsLemmas
import Derived.Laws.Rows
import Derived.KernelRfl
import Derived.Test.YtmimipgmhgalaaaGreatDoorKClientShowsd
section
namespace Go.Proofs.YtmimipgmhgalaaaGreatDoor.PAll
open Go.RowKit Go.Proofs.YtmimipgmhgalaaaGreatDoorW.PrintWords Go.Proofs.YtmimipgmhgalaaaGreatDoorW.PrintLast Go.Proofs.YtmimipgmhgalaaaGreatDoorW.PrintMore
attribute [local go_sem] max2_int min2_int max_two min_two max_three min_three max_four min_four
set_option linter.unusedVariables false
set_option linter.unusedSimpArgs false
def wicketref11_byHeader.j0 : Nat → List (S43) → ByteArray → ByteArray → Bool → Option (ByteArray × ByteArray × Int × Bool × ByteArray × List ByteArray × Int × Int)
 | 0, _, _, _, _ => none
 | k + 1, x0, x13, x14, x35 => if x35 = true then (some ((⟨#[]⟩ : ByteArray), (⟨#[]⟩ : ByteArray), 0, false, (⟨#[]⟩ : ByteArray), ([] : List ByteArray), 0, 112)) else ((wicketref11_Find.f k x0 x13).bind fun bt613 => (if bt613.2.2.2.2.2.2 = true then (if bt613.2.1.toList = ([] : List UInt8) then (some ((⟨#[]⟩ : ByteArray), (⟨#[]⟩ : ByteArray), 0, false, (⟨#[]⟩ : ByteArray), ([] : List ByteArray), 0, 112)) else (if bt613.2.1.toList = x14.toList then (some (bt613.1, bt613.2.1, bt613.2.2.1, bt613.2.2.2.1, bt613.2.2.2.2.1, bt613.2.2.2.2.2.1, 1, 0)) else (some ((⟨#[]⟩ : ByteArray), (⟨#[]⟩ : ByteArray), 0, false, (⟨#[]⟩ : ByteArray), ([] : List ByteArray), 0, 112)))) else (some ((⟨#[]⟩ : ByteArray), (⟨#[]⟩ : ByteArray), 0, false, (⟨#[]⟩ : ByteArray), ([] : List ByteArray), 0, 111))))
def wicketref11_byHeader.f (k : Nat) (l0 : List (S43)) (a1 : ByteArray) (a2 : ByteArray) (a3 : Bool) (a4 : Bool) : Option (ByteArray × ByteArray × Int × Bool × ByteArray × List ByteArray × Int × Int) := (wicketref11_Basic.f k a1).bind fun bt610 => (if bt610.2.2 = 0 then (if a4 = true then (some ((⟨#[]⟩ : ByteArray), (⟨#[]⟩ : ByteArray), 0, false, (⟨#[]⟩ : ByteArray), ([] : List ByteArray), 0, 34)) else (if a3 = true then (wicketref11_byHeader.j0 k l0 bt610.1 bt610.2.1 (a2.toList != bt610.1.toList)) else (wicketref11_byHeader.j0 k l0 bt610.1 bt610.2.1 false))) else (some ((⟨#[]⟩ : ByteArray), (⟨#[]⟩ : ByteArray), 0, false, (⟨#[]⟩ : ByteArray), ([] : List ByteArray), 0, bt610.2.2)))
set_option maxHeartbeats 8000000 in
set_option maxRecDepth 100000 in
theorem wicketref11_byHeader.calls (k : Nat) (P0_ : Nat → Prop) (A0 : Option Addr) (c0 : Nat) (l0 : List (S43)) (a1 : ByteArray) (a2 : ByteArray) (a3 : Bool) (a4 : Bool) (r1 : ByteArray) (r2 : ByteArray) (r3 : Int) (r4 : Bool) (r5 : ByteArray) (r6 : List ByteArray) (r7 : Int) (r8 : Int) (w : World) (hs0 : Kd.V k43 43 w w.heap.size (fun k_ => P0_ k_) (.slice A0 l0.length c0) l0) (h : wicketref11_byHeader.f k l0 a1 a2 a3 a4 = some (r1, r2, r3, r4, r5, r6, r7, r8)) :
 Calls Tryz.prog 71 #[.slice A0 l0.length c0, .string a1, .string a2, .bool a3, .bool a4] w fun e w' => ∃ v5_ : Value, e = .returned (.tuple #[.agg #[.string r1, .string r2, .int .i64 r3, .bool r4, .string r5, v5_], .int .i64 r7, .int .i64 r8]) ∧ Kd.V Kd.string 9 w' w.heap.size (fun k_ => (P0_ k_ ∨ w.heap.size ≤ k_)) v5_ r6 ∧ Below w.heap.size w w' := by
 have hu43 := Tryz.underlying43
 have HO0 := Aside0.mk (show Kd.V k43 43 w w.heap.size (fun k_ => (P0_ k_ ∨ w.heap.size ≤ k_)) (.slice A0 l0.length c0) l0 from Kd.V_mono hs0 (fun k_ hk => .inl hk))
 have HB := Aside0.mk (Below.refl w.heap.size w)
 have H : ((wicketref11_Basic.f k a1).bind fun bt610 => (if bt610.2.2 = 0 then (if a4 = true then (some ((⟨#[]⟩ : ByteArray), (⟨#[]⟩ : ByteArray), 0, false, (⟨#[]⟩ : ByteArray), ([] : List ByteArray), 0, 34)) else (if a3 = true then (wicketref11_byHeader.j0 k l0 bt610.1 bt610.2.1 (a2.toList != bt610.1.toList)) else (wicketref11_byHeader.j0 k l0 bt610.1 bt610.2.1 false))) else (some ((⟨#[]⟩ : ByteArray), (⟨#[]⟩ : ByteArray), 0, false, (⟨#[]⟩ : ByteArray), ([] : List ByteArray), 0, bt610.2.2)))) = some (r1, r2, r3, r4, r5, r6, r7, r8) := h
 clear h
 replace H := Option.bind_eq_some_iff.mp H
 obtain ⟨⟨t610, t611, t612⟩, A60, H⟩ := H
 replace H : (if t612 = 0 then (if a4 = true then (some ((⟨#[]⟩ : ByteArray), (⟨#[]⟩ : ByteArray), 0, false, (⟨#[]⟩ : ByteArray), ([] : List ByteArray), 0, 34)) else (if a3 = true then (wicketref11_byHeader.j0 k l0 t610 t611 (a2.toList != t610.toList)) else (wicketref11_byHeader.j0 k l0 t610 t611 false))) else (some ((⟨#[]⟩ : ByteArray), (⟨#[]⟩ : ByteArray), 0, false, (⟨#[]⟩ : ByteArray), ([] : List ByteArray), 0, t612))) = some (r1, r2, r3, r4, r5, r6, r7, r8) := H
 have A6 := Aside0.mk A60
 clear A60
 by_cases c7 : t612 = 0
 · rw [if_pos c7] at H
   have c7b0 : (t612 == 0) = true := beq_iff_eq.mpr c7
   have c7b1 : (t612 != 0) = false := bne_eq_false_iff_eq.mpr c7
   clear c7
   by_cases c8 : a4 = true
   · subst c8
     have H1 : (some ((⟨#[]⟩ : ByteArray), (⟨#[]⟩ : ByteArray), 0, false, (⟨#[]⟩ : ByteArray), ([] : List ByteArray), 0, 34)) = some (r1, r2, r3, r4, r5, r6, r7, r8) := by rw [if_pos rfl] at H; exact H
     clear H
     have H := H1
     clear H1
     simp only [Option.some.injEq, Prod.mk.injEq] at H
     obtain ⟨rfl, rfl, rfl, rfl, rfl, rfl, rfl, rfl⟩ := H
     go_enter Tryz.func71, Tryz.ntmps71
     go_wp2_with (first | ((with_reducible refine gate_dst (N := 10) rfl ?_); refine box_event (by rfl) (N := 10) (by rfl) (cs := #[.string (⟨#[]⟩ : ByteArray), .string (⟨#[]⟩ : ByteArray), .int .i64 0, .bool false, .string (⟨#[]⟩ : ByteArray), .slice none 0 0]) (t := 43) (by go_simp) ?_; intro gb609 hg w9 hbox hb; replace HO0 := Aside0.mk (Kd.V_below (Kd.V_elderB HO0.out gb609 (Nat.le_of_eq hg.symm)) hb); have BK609 := Aside0.mk hbox; have GW609 := Aside0.mk ((by rw [hg]; exact (below_size HB.out) : w.heap.size ≤ gb609)); have GE609 := Aside0.mk ((by rw [hg]; exact (below_size HB.out) : w.heap.size ≤ gb609)); replace HB := Aside0.mk (below_step HB.out hb); clear hb hbox hg) | ((with_reducible refine gate_callee (f := 33) rfl ?_); refine goesL_ (some 20) rfl rfl Tryz.func33 (by kernel_rfl) rfl #[.string a1] rfl (by ((try simp only [List.map_toArray, List.map_cons, List.map_nil]); (rfl))) ?_; (with_reducible refine (wicketref11_Basic.calls k a1 t610 t611 t612 _ A6.out).mono ?_); rintro e w10 ⟨rfl, hb⟩; refine ⟨_, rfl, ?_⟩; replace HO0 := Aside0.mk (Kd.V_below HO0.out hb); replace BK609 := Aside0.mk (blk_below BK609.out hb); replace HB := Aside0.mk (below_step HB.out hb); clear hb; obtain ⟨hcz11_0, hcz11_1, hcz11_2, hcz11_3, hcz11_4, hcz11_5, hfz11_0, hfz11_1, hfz11_2, hfz11_3, hfz11_4, hfz11_5⟩ := cz6_ BK609.out))
     refine bodyPost_ret (results_ctt rfl _ _ gb609 43 #[.string (⟨#[]⟩ : ByteArray), .string (⟨#[]⟩ : ByteArray), .int .i64 0, .bool false, .string (⟨#[]⟩ : ByteArray), .slice none 0 0] (0, 0) _ rfl (put6_ BK609.out _ _ _ _ _ _) Tryz.underlying43 rfl (by kernel_rfl)) rfl ?_
     exact ⟨_, rfl, Kd.V_nil _ _ _ _ _, by (repeat (with_reducible first | exact HB.out | refine below_set ?_ GE609.out))⟩
   · replace c8 := Bool.eq_false_iff.mpr c8
     subst c8
     have H1 : (if a3 = true then (wicketref11_byHeader.j0 k l0 t610 t611 (a2.toList != t610.toList)) else (wicketref11_byHeader.j0 k l0 t610 t611 false)) = some (r1, r2, r3, r4, r5, r6, r7, r8) := by rw [if_neg (show ¬ (false = true) by decide)] at H; exact H
     clear H
     have H := H1
     clear H1
     have HC12 := Aside0.mk H
     clear H
     go_enter Tryz.func71, Tryz.ntmps71
     go_upto_region 6 with (first | ((with_reducible refine gate_dst (N := 10) rfl ?_); refine box_event (by rfl) (N := 10) (by rfl) (cs := #[.string (⟨#[]⟩ : ByteArray), .string (⟨#[]⟩ : ByteArray), .int .i64 0, .bool false, .string (⟨#[]⟩ : ByteArray), .slice none 0 0]) (t := 43) (by go_simp) ?_; intro gb609 hg w13 hbox hb; replace HO0 := Aside0.mk (Kd.V_below (Kd.V_elderB HO0.out gb609 (Nat.le_of_eq hg.symm)) hb); have BK609 := Aside0.mk hbox; have GW609 := Aside0.mk ((by rw [hg]; exact (below_size HB.out) : w.heap.size ≤ gb609)); have GE609 := Aside0.mk ((by rw [hg]; exact (below_size HB.out) : w.heap.size ≤ gb609)); replace HB := Aside0.mk (below_step HB.out hb); clear hb hbox hg) | ((with_reducible refine gate_callee (f := 33) rfl ?_); refine goesL_ (some 20) rfl rfl Tryz.func33 (by kernel_rfl) rfl #[.string a1] rfl (by ((try simp only [List.map_toArray, List.map_cons, List.map_nil]); (rfl))) ?_; (with_reducible refine (wicketref11_Basic.calls k a1 t610 t611 t612 _ A6.out).mono ?_); rintro e w14 ⟨rfl, hb⟩; refine ⟨_, rfl, ?_⟩; replace HO0 := Aside0.mk (Kd.V_below HO0.out hb); replace BK609 := Aside0.mk (blk_below BK609.out hb); replace HB := Aside0.mk (below_step HB.out hb); clear hb))
     go_cut [35] (fun v35 wc => ∃ (kq : Nat) (x35_11 : Bool), v35 = .bool x35_11 ∧ Aside0 (wicketref11_byHeader.j0 kq l0 t610 t611 x35_11 = some (r1, r2, r3, r4, r5, r6, r7, r8)) ∧ Aside0 (kq ≤ k) ∧ Aside0 (Kd.V k43 43 wc w.heap.size (fun k_ => (P0_ k_ ∨ w.heap.size ≤ k_) ∧ k_ ≠ gb609) (.slice A0 l0.length c0) l0) ∧ Aside0 (wc.heap[gb609]? = some (.cells #[.string (⟨#[]⟩ : ByteArray), .string (⟨#[]⟩ : ByteArray), .int .i64 0, .bool false, .string (⟨#[]⟩ : ByteArray), (.slice none 0 0)] 43 (0, 0))) ∧ Aside0 (Below w.heap.size w wc))
     case first =>
      have H := HC12.out
      clear HC12
      by_cases c15 : a3 = true
      · subst c15
        have H1 : (wicketref11_byHeader.j0 k l0 t610 t611 (a2.toList != t610.toList)) = some (r1, r2, r3, r4, r5, r6, r7, r8) := by rw [if_pos rfl] at H; exact H
        clear H
        have H := H1
        clear H1
        have H' := Aside0.mk H
        clear H
        go_wp2
        go_meet
        case rel => exact ⟨_, ((a2.toList != t610.toList)), rfl, H', ⟨by (omega)⟩, ⟨HO0.out⟩, ⟨BK609.out⟩, ⟨HB.out⟩⟩
      · replace c15 := Bool.eq_false_iff.mpr c15
        subst c15
        have H1 : (wicketref11_byHeader.j0 k l0 t610 t611 false) = some (r1, r2, r3, r4, r5, r6, r7, r8) := by rw [if_neg (show ¬ (false = true) by decide)] at H; exact H
        clear H
        have H := H1
        clear H1
        have H' := Aside0.mk H
        clear H
        go_wp2
        go_meet
        case rel => exact ⟨_, (false), rfl, H', ⟨by (omega)⟩, ⟨HO0.out⟩, ⟨BK609.out⟩, ⟨HB.out⟩⟩
     case rest =>
      clear HC12 c7b0 c7b1
      obtain ⟨kq, x35_11, rfl, HA, HJ11, HO_0, BK609, HB⟩ := hcut
      cases kq with
      | zero => exact absurd HA.out (by simp [wicketref11_byHeader.j0])
      | succ kj11 =>
       have H := HA.out
       clear HA
       simp only [wicketref11_byHeader.j0] at H
       by_cases c16 : x35_11 = true
       · subst c16
         have H1 : (some ((⟨#[]⟩ : ByteArray), (⟨#[]⟩ : ByteArray), 0, false, (⟨#[]⟩ : ByteArray), ([] : List ByteArray), 0, 112)) = some (r1, r2, r3, r4, r5, r6, r7, r8) := by rw [if_pos rfl] at H; exact H
         clear H
         have H := H1
         clear H1
         simp only [Option.some.injEq, Prod.mk.injEq] at H
         obtain ⟨rfl, rfl, rfl, rfl, rfl, rfl, rfl, rfl⟩ := H
         obtain ⟨hcz17_0, hcz17_1, hcz17_2, hcz17_3, hcz17_4, hcz17_5, hfz17_0, hfz17_1, hfz17_2, hfz17_3, hfz17_4, hfz17_5⟩ := cz6_ BK609.out
         go_wp2
         refine bodyPost_ret (results_ctt rfl _ _ gb609 43 #[.string (⟨#[]⟩ : ByteArray), .string (⟨#[]⟩ : ByteArray), .int .i64 0, .bool false, .string (⟨#[]⟩ : ByteArray), .slice none 0 0] (0, 0) _ rfl (put6_ BK609.out _ _ _ _ _ _) Tryz.underlying43 rfl (by kernel_rfl)) rfl ?_
         exact ⟨_, rfl, Kd.V_nil _ _ _ _ _, by (repeat (with_reducible first | exact HB.out | refine below_set ?_ GE609.out))⟩
       · replace c16 := Bool.eq_false_iff.mpr c16
         subst c16
         have H1 : ((wicketref11_Find.f kj11 l0 t610).bind fun bt613 => (if bt613.2.2.2.2.2.2 = true then (if bt613.2.1.toList = ([] : List UInt8) then (some ((⟨#[]⟩ : ByteArray), (⟨#[]⟩ : ByteArray), 0, false, (⟨#[]⟩ : ByteArray), ([] : List ByteArray), 0, 112)) else (if bt613.2.1.toList = t611.toList then (some (bt613.1, bt613.2.1, bt613.2.2.1, bt613.2.2.2.1, bt613.2.2.2.2.1, bt613.2.2.2.2.2.1, 1, 0)) else (some ((⟨#[]⟩ : ByteArray), (⟨#[]⟩ : ByteArray), 0, false, (⟨#[]⟩ : ByteArray), ([] : List ByteArray), 0, 112)))) else (some ((⟨#[]⟩ : ByteArray), (⟨#[]⟩ : ByteArray), 0, false, (⟨#[]⟩ : ByteArray), ([] : List ByteArray), 0, 111)))) = some (r1, r2, r3, r4, r5, r6, r7, r8) := by rw [if_neg (show ¬ (false = true) by decide)] at H; exact H
         clear H
         have H := H1
         clear H1
         replace H := Option.bind_eq_some_iff.mp H
         obtain ⟨⟨t613, t614, t615, t616, t617, t618, t621⟩, A180, H⟩ := H
         replace H : (if t621 = true then (if t614.toList = ([] : List UInt8) then (some ((⟨#[]⟩ : ByteArray), (⟨#[]⟩ : ByteArray), 0, false, (⟨#[]⟩ : ByteArray), ([] : List ByteArray), 0, 112)) else (if t614.toList = t611.toList then (some (t613, t614, t615, t616, t617, t618, 1, 0)) else (some ((⟨#[]⟩ : ByteArray), (⟨#[]⟩ : ByteArray), 0, false, (⟨#[]⟩ : ByteArray), ([] : List ByteArray), 0, 112)))) else (some ((⟨#[]⟩ : ByteArray), (⟨#[]⟩ : ByteArray), 0, false, (⟨#[]⟩ : ByteArray), ([] : List ByteArray), 0, 111))) = some (r1, r2, r3, r4, r5, r6, r7, r8) := H
         have A18 := Aside0.mk A180
         clear A180
         by_cases c19 : t621 = true
         · subst c19
           have H1 : (if t614.toList = ([] : List UInt8) then (some ((⟨#[]⟩ : ByteArray), (⟨#[]⟩ : ByteArray), 0, false, (⟨#[]⟩ : ByteArray), ([] : List ByteArray), 0, 112)) else (if t614.toList = t611.toList then (some (t613, t614, t615, t616, t617, t618, 1, 0)) else (some ((⟨#[]⟩ : ByteArray), (⟨#[]⟩ : ByteArray), 0, false, (⟨#[]⟩ : ByteArray), ([] : List ByteArray), 0, 112)))) = some (r1, r2, r3, r4, r5, r6, r7, r8) := by rw [if_pos rfl] at H; exact H
           clear H
           have H := H1
           clear H1
           by_cases c20 : t614.toList = ([] : List UInt8)
           · rw [if_pos c20] at H
             have c20b0 : (t614.toList == ([] : List UInt8)) = true := beq_iff_eq.mpr c20
             have c20b1 : (t614.toList != ([] : List UInt8)) = false := bne_eq_false_iff_eq.mpr c20
             clear c20
             simp only [Option.some.injEq, Prod.mk.injEq] at H
             obtain ⟨rfl, rfl, rfl, rfl, rfl, rfl, rfl, rfl⟩ := H
             go_wp2_with (first | ((with_reducible refine gate_callee (f := 30) rfl ?_); refine goesL_ (some 40) rfl rfl Tryz.func30 (by kernel_rfl) rfl #[.slice A0 l0.length c0, .string t610] rfl (by ((try simp only [List.map_toArray, List.map_cons, List.map_nil]); (rfl))) ?_; (with_reducible refine (wicketref11_Find.calls kj11 (fun k_ => ((P0_ k_ ∨ w.heap.size ≤ k_) ∧ k_ ≠ gb609)) _ _ l0 t610 t613 t614 t615 t616 t617 t618 true _ ?side1 A18.out).mono ?_); (case side1 => exact HO_0.out); rintro e w21 ⟨v619, rfl, ho0, hb⟩; refine ⟨_, rfl, ?_⟩; replace HO_0 := Aside0.mk (Kd.V_below HO_0.out hb); have HO620 := Aside0.mk (Kd.V_lower (Kd.V_mono (ok' := fun k_ => (P0_ k_ ∨ w.heap.size ≤ k_) ∧ k_ ≠ gb609) ho0 (fun k_ hk_ => ⟨Or.elim hk_ (fun hs_ => hs_.1) (fun hn_ => (.inr (Nat.le_trans (below_size HB.out) hn_))), Or.elim hk_ (fun hs_ => hs_.2) (fun hn_ => (Kd.freshB (g := gb609) (o := .cells #[.string (⟨#[]⟩ : ByteArray), .string (⟨#[]⟩ : ByteArray), .int .i64 0, .bool false, .string (⟨#[]⟩ : ByteArray), .slice none 0 0] 43 (0, 0)) BK609.out k_ hn_))⟩)) (below_size HB.out)); replace BK609 := Aside0.mk (blk_below BK609.out hb); replace HB := Aside0.mk (below_step HB.out hb); clear hb ho0) | ((with_reducible refine gate_dst (N := 16) rfl ?_); refine box_event (by rfl) (N := 16) (by rfl) (cs := #[.string (⟨#[]⟩ : ByteArray), .string (⟨#[]⟩ : ByteArray), .int .i64 0, .bool false, .string (⟨#[]⟩ : ByteArray), .slice none 0 0]) (t := 43) (by go_simp) ?_; intro gb622 hg w22 hbox hb; replace HO_0 := Aside0.mk (Kd.V_below (Kd.V_elderB HO_0.out gb622 (Nat.le_of_eq hg.symm)) hb); replace HO620 := Aside0.mk (Kd.V_below (Kd.V_elderB HO620.out gb622 (Nat.le_of_eq hg.symm)) hb); have BK622 := Aside0.mk hbox; have GW622 := Aside0.mk ((by rw [hg]; exact (below_size HB.out) : w.heap.size ≤ gb622)); have GE622 := Aside0.mk ((by rw [hg]; exact (below_size HB.out) : w.heap.size ≤ gb622)); replace HB := Aside0.mk (below_step HB.out hb); have NB609_622 := Aside0.mk ((by rw [hg]; exact Nat.ne_of_lt (blk_lt BK609.out) : gb609 ≠ gb622)); have NB622_609 := Aside0.mk ((by rw [hg]; exact Nat.ne_of_gt (blk_lt BK609.out) : gb622 ≠ gb609)); replace BK609 := Aside0.mk (blk_below BK609.out hb); clear hb hbox hg; have hnb23 := NB622_609.out; have hnc23 := NB609_622.out; obtain ⟨hcz24_0, hcz24_1, hcz24_2, hcz24_3, hcz24_4, hcz24_5, hfz24_0, hfz24_1, hfz24_2, hfz24_3, hfz24_4, hfz24_5⟩ := cz6_ BK622.out; obtain ⟨Ao25, co25, eo25⟩ := Kd.V_slice HO620.out; subst eo25; obtain ⟨hcz26_0, hcz26_1, hcz26_2, hcz26_3, hcz26_4, hcz26_5, hfz26_0, hfz26_1, hfz26_2, hfz26_3, hfz26_4, hfz26_5⟩ := cz6_ BK609.out))
             refine bodyPost_ret (results_ctt rfl _ _ gb609 43 #[.string (⟨#[]⟩ : ByteArray), .string (⟨#[]⟩ : ByteArray), .int .i64 0, .bool false, .string (⟨#[]⟩ : ByteArray), .slice none 0 0] (0, 0) _ rfl (by (with_reducible repeat (first | refine blk_drewN ?_ _  | refine blk_drew ?_  | refine blk_alloc ?_ _)); refine blk_put (cs := #[.string (⟨#[]⟩ : ByteArray), .string (⟨#[]⟩ : ByteArray), .int .i64 0, .bool false, .string (⟨#[]⟩ : ByteArray), .slice none 0 0]) ?_ 5 _ rfl; (with_reducible repeat (first | refine blk_drewN ?_ _  | refine blk_drew ?_  | refine blk_alloc ?_ _)); refine blk_put (cs := #[.string (⟨#[]⟩ : ByteArray), .string (⟨#[]⟩ : ByteArray), .int .i64 0, .bool false, .string (⟨#[]⟩ : ByteArray), .slice none 0 0]) ?_ 4 _ rfl; (with_reducible repeat (first | refine blk_drewN ?_ _  | refine blk_drew ?_  | refine blk_alloc ?_ _)); refine blk_put (cs := #[.string (⟨#[]⟩ : ByteArray), .string (⟨#[]⟩ : ByteArray), .int .i64 0, .bool false, .string (⟨#[]⟩ : ByteArray), .slice none 0 0]) ?_ 3 _ rfl; (with_reducible repeat (first | refine blk_drewN ?_ _  | refine blk_drew ?_  | refine blk_alloc ?_ _)); refine blk_put (cs := #[.string (⟨#[]⟩ : ByteArray), .string (⟨#[]⟩ : ByteArray), .int .i64 0, .bool false, .string (⟨#[]⟩ : ByteArray), .slice none 0 0]) ?_ 2 _ rfl; (with_reducible repeat (first | refine blk_drewN ?_ _  | refine blk_drew ?_  | refine blk_alloc ?_ _)); refine blk_put (cs := #[.string (⟨#[]⟩ : ByteArray), .string (⟨#[]⟩ : ByteArray), .int .i64 0, .bool false, .string (⟨#[]⟩ : ByteArray), .slice none 0 0]) ?_ 1 _ rfl; (with_reducible repeat (first | refine blk_drewN ?_ _  | refine blk_drew ?_  | refine blk_alloc ?_ _)); refine blk_put (cs := #[.string (⟨#[]⟩ : ByteArray), .string (⟨#[]⟩ : ByteArray), .int .i64 0, .bool false, .string (⟨#[]⟩ : ByteArray), .slice none 0 0]) ?_ 0 _ rfl; (with_reducible repeat (first | refine blk_drewN ?_ _  | refine blk_drew ?_  | refine blk_alloc ?_ _)); refine blk_far ?_ NB609_622.out _; (with_reducible repeat (first | refine blk_drewN ?_ _  | refine blk_drew ?_  | refine blk_alloc ?_ _)); refine blk_far ?_ NB609_622.out _; (with_reducible repeat (first | refine blk_drewN ?_ _  | refine blk_drew ?_  | refine blk_alloc ?_ _)); refine blk_far ?_ NB609_622.out _; (with_reducible repeat (first | refine blk_drewN ?_ _  | refine blk_drew ?_  | refine blk_alloc ?_ _)); refine blk_far ?_ NB609_622.out _; (with_reducible repeat (first | refine blk_drewN ?_ _  | refine blk_drew ?_  | refine blk_alloc ?_ _)); refine blk_far ?_ NB609_622.out _; (with_reducible repeat (first | refine blk_drewN ?_ _  | refine blk_drew ?_  | refine blk_alloc ?_ _)); refine blk_far ?_ NB609_622.out _; (with_reducible repeat (first | refine blk_drewN ?_ _  | refine blk_drew ?_  | refine blk_alloc ?_ _)); exact BK609.out) Tryz.underlying43 rfl (by kernel_rfl)) rfl ?_
             exact ⟨_, rfl, Kd.V_nil _ _ _ _ _, by (repeat (with_reducible first | exact HB.out | refine below_set ?_ GE609.out | refine below_set ?_ GE622.out))⟩
           · rw [if_neg c20] at H
             have c20b0 : (t614.toList == ([] : List UInt8)) = false := beq_eq_false_iff_ne.mpr c20
             have c20b1 : (t614.toList != ([] : List UInt8)) = true := bne_iff_ne.mpr c20
             by_cases c27 : t614.toList = t611.toList
             · rw [if_pos c27] at H
               have c27b0 : (t614.toList == t611.toList) = true := beq_iff_eq.mpr c27
               have c27b1 : (t614.toList != t611.toList) = false := bne_eq_false_iff_eq.mpr c27
               clear c27
               simp only [Option.some.injEq, Prod.mk.injEq] at H
               obtain ⟨rfl, rfl, rfl, rfl, rfl, rfl, rfl, rfl⟩ := H
               go_wp2_with (first | ((with_reducible refine gate_callee (f := 30) rfl ?_); refine goesL_ (some 40) rfl rfl Tryz.func30 (by kernel_rfl) rfl #[.slice A0 l0.length c0, .string t610] rfl (by ((try simp only [List.map_toArray, List.map_cons, List.map_nil]); (rfl))) ?_; (with_reducible refine (wicketref11_Find.calls kj11 (fun k_ => ((P0_ k_ ∨ w.heap.size ≤ k_) ∧ k_ ≠ gb609)) _ _ l0 t610 t613 t614 t615 t616 t617 t618 true _ ?side1 A18.out).mono ?_); (case side1 => exact HO_0.out); rintro e w28 ⟨v619, rfl, ho0, hb⟩; refine ⟨_, rfl, ?_⟩; replace HO_0 := Aside0.mk (Kd.V_below HO_0.out hb); have HO620 := Aside0.mk (Kd.V_lower (Kd.V_mono (ok' := fun k_ => (P0_ k_ ∨ w.heap.size ≤ k_) ∧ k_ ≠ gb609) ho0 (fun k_ hk_ => ⟨Or.elim hk_ (fun hs_ => hs_.1) (fun hn_ => (.inr (Nat.le_trans (below_size HB.out) hn_))), Or.elim hk_ (fun hs_ => hs_.2) (fun hn_ => (Kd.freshB (g := gb609) (o := .cells #[.string (⟨#[]⟩ : ByteArray), .string (⟨#[]⟩ : ByteArray), .int .i64 0, .bool false, .string (⟨#[]⟩ : ByteArray), .slice none 0 0] 43 (0, 0)) BK609.out k_ hn_))⟩)) (below_size HB.out)); replace BK609 := Aside0.mk (blk_below BK609.out hb); replace HB := Aside0.mk (below_step HB.out hb); clear hb ho0) | ((with_reducible refine gate_dst (N := 16) rfl ?_); refine box_event (by rfl) (N := 16) (by rfl) (cs := #[.string (⟨#[]⟩ : ByteArray), .string (⟨#[]⟩ : ByteArray), .int .i64 0, .bool false, .string (⟨#[]⟩ : ByteArray), .slice none 0 0]) (t := 43) (by go_simp) ?_; intro gb622 hg w29 hbox hb; replace HO_0 := Aside0.mk (Kd.V_below (Kd.V_elderB HO_0.out gb622 (Nat.le_of_eq hg.symm)) hb); replace HO620 := Aside0.mk (Kd.V_below (Kd.V_elderB HO620.out gb622 (Nat.le_of_eq hg.symm)) hb); have BK622 := Aside0.mk hbox; have GW622 := Aside0.mk ((by rw [hg]; exact (below_size HB.out) : w.heap.size ≤ gb622)); have GE622 := Aside0.mk ((by rw [hg]; exact (below_size HB.out) : w.heap.size ≤ gb622)); replace HB := Aside0.mk (below_step HB.out hb); have NB609_622 := Aside0.mk ((by rw [hg]; exact Nat.ne_of_lt (blk_lt BK609.out) : gb609 ≠ gb622)); have NB622_609 := Aside0.mk ((by rw [hg]; exact Nat.ne_of_gt (blk_lt BK609.out) : gb622 ≠ gb609)); replace BK609 := Aside0.mk (blk_below BK609.out hb); clear hb hbox hg; have hnb30 := NB622_609.out; have hnc30 := NB609_622.out; obtain ⟨hcz31_0, hcz31_1, hcz31_2, hcz31_3, hcz31_4, hcz31_5, hfz31_0, hfz31_1, hfz31_2, hfz31_3, hfz31_4, hfz31_5⟩ := cz6_ BK622.out; obtain ⟨Ao32, co32, eo32⟩ := Kd.V_slice HO620.out; subst eo32; obtain ⟨hcz33_0, hcz33_1, hcz33_2, hcz33_3, hcz33_4, hcz33_5, hfz33_0, hfz33_1, hfz33_2, hfz33_3, hfz33_4, hfz33_5⟩ := cz6_ BK609.out))
               refine bodyPost_ret (results_ctt rfl _ _ gb609 43 #[.string t613, .string t614, .int .i64 t615, .bool t616, .string t617, .slice Ao32 t618.length co32] (0, 0) _ rfl (by (with_reducible repeat (first | refine blk_drewN ?_ _  | refine blk_drew ?_  | refine blk_alloc ?_ _)); refine blk_put (cs := #[.string t613, .string t614, .int .i64 t615, .bool t616, .string t617, .slice none 0 0]) ?_ 5 _ rfl; (with_reducible repeat (first | refine blk_drewN ?_ _  | refine blk_drew ?_  | refine blk_alloc ?_ _)); refine blk_put (cs := #[.string t613, .string t614, .int .i64 t615, .bool t616, .string (⟨#[]⟩ : ByteArray), .slice none 0 0]) ?_ 4 _ rfl; (with_reducible repeat (first | refine blk_drewN ?_ _  | refine blk_drew ?_  | refine blk_alloc ?_ _)); refine blk_put (cs := #[.string t613, .string t614, .int .i64 t615, .bool false, .string (⟨#[]⟩ : ByteArray), .slice none 0 0]) ?_ 3 _ rfl; (with_reducible repeat (first | refine blk_drewN ?_ _  | refine blk_drew ?_  | refine blk_alloc ?_ _)); refine blk_put (cs := #[.string t613, .string t614, .int .i64 0, .bool false, .string (⟨#[]⟩ : ByteArray), .slice none 0 0]) ?_ 2 _ rfl; (with_reducible repeat (first | refine blk_drewN ?_ _  | refine blk_drew ?_  | refine blk_alloc ?_ _)); refine blk_put (cs := #[.string t613, .string (⟨#[]⟩ : ByteArray), .int .i64 0, .bool false, .string (⟨#[]⟩ : ByteArray), .slice none 0 0]) ?_ 1 _ rfl; (with_reducible repeat (first | refine blk_drewN ?_ _  | refine blk_drew ?_  | refine blk_alloc ?_ _)); refine blk_put (cs := #[.string (⟨#[]⟩ : ByteArray), .string (⟨#[]⟩ : ByteArray), .int .i64 0, .bool false, .string (⟨#[]⟩ : ByteArray), .slice none 0 0]) ?_ 0 _ rfl; (with_reducible repeat (first | refine blk_drewN ?_ _  | refine blk_drew ?_  | refine blk_alloc ?_ _)); refine blk_far ?_ NB609_622.out _; (with_reducible repeat (first | refine blk_drewN ?_ _  | refine blk_drew ?_  | refine blk_alloc ?_ _)); refine blk_far ?_ NB609_622.out _; (with_reducible repeat (first | refine blk_drewN ?_ _  | refine blk_drew ?_  | refine blk_alloc ?_ _)); refine blk_far ?_ NB609_622.out _; (with_reducible repeat (first | refine blk_drewN ?_ _  | refine blk_drew ?_  | refine blk_alloc ?_ _)); refine blk_far ?_ NB609_622.out _; (with_reducible repeat (first | refine blk_drewN ?_ _  | refine blk_drew ?_  | refine blk_alloc ?_ _)); refine blk_far ?_ NB609_622.out _; (with_reducible repeat (first | refine blk_drewN ?_ _  | refine blk_drew ?_  | refine blk_alloc ?_ _)); refine blk_far ?_ NB609_622.out _; (with_reducible repeat (first | refine blk_drewN ?_ _  | refine blk_drew ?_  | refine blk_alloc ?_ _)); exact BK609.out) Tryz.underlying43 rfl (by kernel_rfl)) rfl ?_
               exact ⟨_, rfl, by (with_reducible repeat (first | apply Kd.V_alloc  | apply Kd.V_drewN  | apply Kd.V_drew)); exact Kd.V_mono (V_far6 (V_far6 (Kd.V_mono (Kd.V_mono HO620.out (fun k_ hk => (⟨hk, hk.2⟩ : _ ∧ k_ ≠ gb622))) (fun k_ hk => (⟨hk, hk.1.1.2⟩ : _ ∧ k_ ≠ gb609))) (fun _ hk => hk.1.2)) (fun _ hk => hk.2)) (fun _ hk => hk.1.1.1.1), by (repeat (with_reducible first | exact HB.out | refine below_set ?_ GE609.out | refine below_set ?_ GE622.out))⟩
             · rw [if_neg c27] at H
               have c27b0 : (t614.toList == t611.toList) = false := beq_eq_false_iff_ne.mpr c27
               have c27b1 : (t614.toList != t611.toList) = true := bne_iff_ne.mpr c27
               simp only [Option.some.injEq, Prod.mk.injEq] at H
               obtain ⟨rfl, rfl, rfl, rfl, rfl, rfl, rfl, rfl⟩ := H
               go_wp2_with (first | ((with_reducible refine gate_callee (f := 30) rfl ?_); refine goesL_ (some 40) rfl rfl Tryz.func30 (by kernel_rfl) rfl #[.slice A0 l0.length c0, .string t610] rfl (by ((try simp only [List.map_toArray, List.map_cons, List.map_nil]); (rfl))) ?_; (with_reducible refine (wicketref11_Find.calls kj11 (fun k_ => ((P0_ k_ ∨ w.heap.size ≤ k_) ∧ k_ ≠ gb609)) _ _ l0 t610 t613 t614 t615 t616 t617 t618 true _ ?side1 A18.out).mono ?_); (case side1 => exact HO_0.out); rintro e w34 ⟨v619, rfl, ho0, hb⟩; refine ⟨_, rfl, ?_⟩; replace HO_0 := Aside0.mk (Kd.V_below HO_0.out hb); have HO620 := Aside0.mk (Kd.V_lower (Kd.V_mono (ok' := fun k_ => (P0_ k_ ∨ w.heap.size ≤ k_) ∧ k_ ≠ gb609) ho0 (fun k_ hk_ => ⟨Or.elim hk_ (fun hs_ => hs_.1) (fun hn_ => (.inr (Nat.le_trans (below_size HB.out) hn_))), Or.elim hk_ (fun hs_ => hs_.2) (fun hn_ => (Kd.freshB (g := gb609) (o := .cells #[.string (⟨#[]⟩ : ByteArray), .string (⟨#[]⟩ : ByteArray), .int .i64 0, .bool false, .string (⟨#[]⟩ : ByteArray), .slice none 0 0] 43 (0, 0)) BK609.out k_ hn_))⟩)) (below_size HB.out)); replace BK609 := Aside0.mk (blk_below BK609.out hb); replace HB := Aside0.mk (below_step HB.out hb); clear hb ho0) | ((with_reducible refine gate_dst (N := 16) rfl ?_); refine box_event (by rfl) (N := 16) (by rfl) (cs := #[.string (⟨#[]⟩ : ByteArray), .string (⟨#[]⟩ : ByteArray), .int .i64 0, .bool false, .string (⟨#[]⟩ : ByteArray), .slice none 0 0]) (t := 43) (by go_simp) ?_; intro gb622 hg w35 hbox hb; replace HO_0 := Aside0.mk (Kd.V_below (Kd.V_elderB HO_0.out gb622 (Nat.le_of_eq hg.symm)) hb); replace HO620 := Aside0.mk (Kd.V_below (Kd.V_elderB HO620.out gb622 (Nat.le_of_eq hg.symm)) hb); have BK622 := Aside0.mk hbox; have GW622 := Aside0.mk ((by rw [hg]; exact (below_size HB.out) : w.heap.size ≤ gb622)); have GE622 := Aside0.mk ((by rw [hg]; exact (below_size HB.out) : w.heap.size ≤ gb622)); replace HB := Aside0.mk (below_step HB.out hb); have NB609_622 := Aside0.mk ((by rw [hg]; exact Nat.ne_of_lt (blk_lt BK609.out) : gb609 ≠ gb622)); have NB622_609 := Aside0.mk ((by rw [hg]; exact Nat.ne_of_gt (blk_lt BK609.out) : gb622 ≠ gb609)); replace BK609 := Aside0.mk (blk_below BK609.out hb); clear hb hbox hg; have hnb36 := NB622_609.out; have hnc36 := NB609_622.out; obtain ⟨hcz37_0, hcz37_1, hcz37_2, hcz37_3, hcz37_4, hcz37_5, hfz37_0, hfz37_1, hfz37_2, hfz37_3, hfz37_4, hfz37_5⟩ := cz6_ BK622.out; obtain ⟨Ao38, co38, eo38⟩ := Kd.V_slice HO620.out; subst eo38; obtain ⟨hcz39_0, hcz39_1, hcz39_2, hcz39_3, hcz39_4, hcz39_5, hfz39_0, hfz39_1, hfz39_2, hfz39_3, hfz39_4, hfz39_5⟩ := cz6_ BK609.out))
               refine bodyPost_ret (results_ctt rfl _ _ gb609 43 #[.string (⟨#[]⟩ : ByteArray), .string (⟨#[]⟩ : ByteArray), .int .i64 0, .bool false, .string (⟨#[]⟩ : ByteArray), .slice none 0 0] (0, 0) _ rfl (by (with_reducible repeat (first | refine blk_drewN ?_ _  | refine blk_drew ?_  | refine blk_alloc ?_ _)); refine blk_put (cs := #[.string (⟨#[]⟩ : ByteArray), .string (⟨#[]⟩ : ByteArray), .int .i64 0, .bool false, .string (⟨#[]⟩ : ByteArray), .slice none 0 0]) ?_ 5 _ rfl; (with_reducible repeat (first | refine blk_drewN ?_ _  | refine blk_drew ?_  | refine blk_alloc ?_ _)); refine blk_put (cs := #[.string (⟨#[]⟩ : ByteArray), .string (⟨#[]⟩ : ByteArray), .int .i64 0, .bool false, .string (⟨#[]⟩ : ByteArray), .slice none 0 0]) ?_ 4 _ rfl; (with_reducible repeat (first | refine blk_drewN ?_ _  | refine blk_drew ?_  | refine blk_alloc ?_ _)); refine blk_put (cs := #[.string (⟨#[]⟩ : ByteArray), .string (⟨#[]⟩ : ByteArray), .int .i64 0, .bool false, .string (⟨#[]⟩ : ByteArray), .slice none 0 0]) ?_ 3 _ rfl; (with_reducible repeat (first | refine blk_drewN ?_ _  | refine blk_drew ?_  | refine blk_alloc ?_ _)); refine blk_put (cs := #[.string (⟨#[]⟩ : ByteArray), .string (⟨#[]⟩ : ByteArray), .int .i64 0, .bool false, .string (⟨#[]⟩ : ByteArray), .slice none 0 0]) ?_ 2 _ rfl; (with_reducible repeat (first | refine blk_drewN ?_ _  | refine blk_drew ?_  | refine blk_alloc ?_ _)); refine blk_put (cs := #[.string (⟨#[]⟩ : ByteArray), .string (⟨#[]⟩ : ByteArray), .int .i64 0, .bool false, .string (⟨#[]⟩ : ByteArray), .slice none 0 0]) ?_ 1 _ rfl; (with_reducible repeat (first | refine blk_drewN ?_ _  | refine blk_drew ?_  | refine blk_alloc ?_ _)); refine blk_put (cs := #[.string (⟨#[]⟩ : ByteArray), .string (⟨#[]⟩ : ByteArray), .int .i64 0, .bool false, .string (⟨#[]⟩ : ByteArray), .slice none 0 0]) ?_ 0 _ rfl; (with_reducible repeat (first | refine blk_drewN ?_ _  | refine blk_drew ?_  | refine blk_alloc ?_ _)); refine blk_far ?_ NB609_622.out _; (with_reducible repeat (first | refine blk_drewN ?_ _  | refine blk_drew ?_  | refine blk_alloc ?_ _)); refine blk_far ?_ NB609_622.out _; (with_reducible repeat (first | refine blk_drewN ?_ _  | refine blk_drew ?_  | refine blk_alloc ?_ _)); refine blk_far ?_ NB609_622.out _; (with_reducible repeat (first | refine blk_drewN ?_ _  | refine blk_drew ?_  | refine blk_alloc ?_ _)); refine blk_far ?_ NB609_622.out _; (with_reducible repeat (first | refine blk_drewN ?_ _  | refine blk_drew ?_  | refine blk_alloc ?_ _)); refine blk_far ?_ NB609_622.out _; (with_reducible repeat (first | refine blk_drewN ?_ _  | refine blk_drew ?_  | refine blk_alloc ?_ _)); refine blk_far ?_ NB609_622.out _; (with_reducible repeat (first | refine blk_drewN ?_ _  | refine blk_drew ?_  | refine blk_alloc ?_ _)); exact BK609.out) Tryz.underlying43 rfl (by kernel_rfl)) rfl ?_
               exact ⟨_, rfl, Kd.V_nil _ _ _ _ _, by (repeat (with_reducible first | exact HB.out | refine below_set ?_ GE609.out | refine below_set ?_ GE622.out))⟩
         · replace c19 := Bool.eq_false_iff.mpr c19
           subst c19
           have H1 : (some ((⟨#[]⟩ : ByteArray), (⟨#[]⟩ : ByteArray), 0, false, (⟨#[]⟩ : ByteArray), ([] : List ByteArray), 0, 111)) = some (r1, r2, r3, r4, r5, r6, r7, r8) := by rw [if_neg (show ¬ (false = true) by decide)] at H; exact H
           clear H
           have H := H1
           clear H1
           simp only [Option.some.injEq, Prod.mk.injEq] at H
           obtain ⟨rfl, rfl, rfl, rfl, rfl, rfl, rfl, rfl⟩ := H
           go_wp2_with (first | ((with_reducible refine gate_callee (f := 30) rfl ?_); refine goesL_ (some 40) rfl rfl Tryz.func30 (by kernel_rfl) rfl #[.slice A0 l0.length c0, .string t610] rfl (by ((try simp only [List.map_toArray, List.map_cons, List.map_nil]); (rfl))) ?_; (with_reducible refine (wicketref11_Find.calls kj11 (fun k_ => ((P0_ k_ ∨ w.heap.size ≤ k_) ∧ k_ ≠ gb609)) _ _ l0 t610 t613 t614 t615 t616 t617 t618 false _ ?side1 A18.out).mono ?_); (case side1 => exact HO_0.out); rintro e w40 ⟨v619, rfl, ho0, hb⟩; refine ⟨_, rfl, ?_⟩; replace HO_0 := Aside0.mk (Kd.V_below HO_0.out hb); have HO620 := Aside0.mk (Kd.V_lower (Kd.V_mono (ok' := fun k_ => (P0_ k_ ∨ w.heap.size ≤ k_) ∧ k_ ≠ gb609) ho0 (fun k_ hk_ => ⟨Or.elim hk_ (fun hs_ => hs_.1) (fun hn_ => (.inr (Nat.le_trans (below_size HB.out) hn_))), Or.elim hk_ (fun hs_ => hs_.2) (fun hn_ => (Kd.freshB (g := gb609) (o := .cells #[.string (⟨#[]⟩ : ByteArray), .string (⟨#[]⟩ : ByteArray), .int .i64 0, .bool false, .string (⟨#[]⟩ : ByteArray), .slice none 0 0] 43 (0, 0)) BK609.out k_ hn_))⟩)) (below_size HB.out)); replace BK609 := Aside0.mk (blk_below BK609.out hb); replace HB := Aside0.mk (below_step HB.out hb); clear hb ho0) | ((with_reducible refine gate_dst (N := 16) rfl ?_); refine box_event (by rfl) (N := 16) (by rfl) (cs := #[.string (⟨#[]⟩ : ByteArray), .string (⟨#[]⟩ : ByteArray), .int .i64 0, .bool false, .string (⟨#[]⟩ : ByteArray), .slice none 0 0]) (t := 43) (by go_simp) ?_; intro gb622 hg w41 hbox hb; replace HO_0 := Aside0.mk (Kd.V_below (Kd.V_elderB HO_0.out gb622 (Nat.le_of_eq hg.symm)) hb); replace HO620 := Aside0.mk (Kd.V_below (Kd.V_elderB HO620.out gb622 (Nat.le_of_eq hg.symm)) hb); have BK622 := Aside0.mk hbox; have GW622 := Aside0.mk ((by rw [hg]; exact (below_size HB.out) : w.heap.size ≤ gb622)); have GE622 := Aside0.mk ((by rw [hg]; exact (below_size HB.out) : w.heap.size ≤ gb622)); replace HB := Aside0.mk (below_step HB.out hb); have NB609_622 := Aside0.mk ((by rw [hg]; exact Nat.ne_of_lt (blk_lt BK609.out) : gb609 ≠ gb622)); have NB622_609 := Aside0.mk ((by rw [hg]; exact Nat.ne_of_gt (blk_lt BK609.out) : gb622 ≠ gb609)); replace BK609 := Aside0.mk (blk_below BK609.out hb); clear hb hbox hg; have hnb42 := NB622_609.out; have hnc42 := NB609_622.out; obtain ⟨hcz43_0, hcz43_1, hcz43_2, hcz43_3, hcz43_4, hcz43_5, hfz43_0, hfz43_1, hfz43_2, hfz43_3, hfz43_4, hfz43_5⟩ := cz6_ BK622.out; obtain ⟨Ao44, co44, eo44⟩ := Kd.V_slice HO620.out; subst eo44; obtain ⟨hcz45_0, hcz45_1, hcz45_2, hcz45_3, hcz45_4, hcz45_5, hfz45_0, hfz45_1, hfz45_2, hfz45_3, hfz45_4, hfz45_5⟩ := cz6_ BK609.out))
           refine bodyPost_ret (results_ctt rfl _ _ gb609 43 #[.string (⟨#[]⟩ : ByteArray), .string (⟨#[]⟩ : ByteArray), .int .i64 0, .bool false, .string (⟨#[]⟩ : ByteArray), .slice none 0 0] (0, 0) _ rfl (by (with_reducible repeat (first | refine blk_drewN ?_ _  | refine blk_drew ?_  | refine blk_alloc ?_ _)); refine blk_put (cs := #[.string (⟨#[]⟩ : ByteArray), .string (⟨#[]⟩ : ByteArray), .int .i64 0, .bool false, .string (⟨#[]⟩ : ByteArray), .slice none 0 0]) ?_ 5 _ rfl; (with_reducible repeat (first | refine blk_drewN ?_ _  | refine blk_drew ?_  | refine blk_alloc ?_ _)); refine blk_put (cs := #[.string (⟨#[]⟩ : ByteArray), .string (⟨#[]⟩ : ByteArray), .int .i64 0, .bool false, .string (⟨#[]⟩ : ByteArray), .slice none 0 0]) ?_ 4 _ rfl; (with_reducible repeat (first | refine blk_drewN ?_ _  | refine blk_drew ?_  | refine blk_alloc ?_ _)); refine blk_put (cs := #[.string (⟨#[]⟩ : ByteArray), .string (⟨#[]⟩ : ByteArray), .int .i64 0, .bool false, .string (⟨#[]⟩ : ByteArray), .slice none 0 0]) ?_ 3 _ rfl; (with_reducible repeat (first | refine blk_drewN ?_ _  | refine blk_drew ?_  | refine blk_alloc ?_ _)); refine blk_put (cs := #[.string (⟨#[]⟩ : ByteArray), .string (⟨#[]⟩ : ByteArray), .int .i64 0, .bool false, .string (⟨#[]⟩ : ByteArray), .slice none 0 0]) ?_ 2 _ rfl; (with_reducible repeat (first | refine blk_drewN ?_ _  | refine blk_drew ?_  | refine blk_alloc ?_ _)); refine blk_put (cs := #[.string (⟨#[]⟩ : ByteArray), .string (⟨#[]⟩ : ByteArray), .int .i64 0, .bool false, .string (⟨#[]⟩ : ByteArray), .slice none 0 0]) ?_ 1 _ rfl; (with_reducible repeat (first | refine blk_drewN ?_ _  | refine blk_drew ?_  | refine blk_alloc ?_ _)); refine blk_put (cs := #[.string (⟨#[]⟩ : ByteArray), .string (⟨#[]⟩ : ByteArray), .int .i64 0, .bool false, .string (⟨#[]⟩ : ByteArray), .slice none 0 0]) ?_ 0 _ rfl; (with_reducible repeat (first | refine blk_drewN ?_ _  | refine blk_drew ?_  | refine blk_alloc ?_ _)); refine blk_far ?_ NB609_622.out _; (with_reducible repeat (first | refine blk_drewN ?_ _  | refine blk_drew ?_  | refine blk_alloc ?_ _)); refine blk_far ?_ NB609_622.out _; (with_reducible repeat (first | refine blk_drewN ?_ _  | refine blk_drew ?_  | refine blk_alloc ?_ _)); refine blk_far ?_ NB609_622.out _; (with_reducible repeat (first | refine blk_drewN ?_ _  | refine blk_drew ?_  | refine blk_alloc ?_ _)); refine blk_far ?_ NB609_622.out _; (with_reducible repeat (first | refine blk_drewN ?_ _  | refine blk_drew ?_  | refine blk_alloc ?_ _)); refine blk_far ?_ NB609_622.out _; (with_reducible repeat (first | refine blk_drewN ?_ _  | refine blk_drew ?_  | refine blk_alloc ?_ _)); refine blk_far ?_ NB609_622.out _; (with_reducible repeat (first | refine blk_drewN ?_ _  | refine blk_drew ?_  | refine blk_alloc ?_ _)); exact BK609.out) Tryz.underlying43 rfl (by kernel_rfl)) rfl ?_
           exact ⟨_, rfl, Kd.V_nil _ _ _ _ _, by (repeat (with_reducible first | exact HB.out | refine below_set ?_ GE609.out | refine below_set ?_ GE622.out))⟩
 · rw [if_neg c7] at H
   have c7b0 : (t612 == 0) = false := beq_eq_false_iff_ne.mpr c7
   have c7b1 : (t612 != 0) = true := bne_iff_ne.mpr c7
   simp only [Option.some.injEq, Prod.mk.injEq] at H
   obtain ⟨rfl, rfl, rfl, rfl, rfl, rfl, rfl, rfl⟩ := H
   go_enter Tryz.func71, Tryz.ntmps71
   go_wp2_with (first | ((with_reducible refine gate_dst (N := 10) rfl ?_); refine box_event (by rfl) (N := 10) (by rfl) (cs := #[.string (⟨#[]⟩ : ByteArray), .string (⟨#[]⟩ : ByteArray), .int .i64 0, .bool false, .string (⟨#[]⟩ : ByteArray), .slice none 0 0]) (t := 43) (by go_simp) ?_; intro gb609 hg w46 hbox hb; replace HO0 := Aside0.mk (Kd.V_below (Kd.V_elderB HO0.out gb609 (Nat.le_of_eq hg.symm)) hb); have BK609 := Aside0.mk hbox; have GW609 := Aside0.mk ((by rw [hg]; exact (below_size HB.out) : w.heap.size ≤ gb609)); have GE609 := Aside0.mk ((by rw [hg]; exact (below_size HB.out) : w.heap.size ≤ gb609)); replace HB := Aside0.mk (below_step HB.out hb); clear hb hbox hg) | ((with_reducible refine gate_callee (f := 33) rfl ?_); refine goesL_ (some 20) rfl rfl Tryz.func33 (by kernel_rfl) rfl #[.string a1] rfl (by ((try simp only [List.map_toArray, List.map_cons, List.map_nil]); (rfl))) ?_; (with_reducible refine (wicketref11_Basic.calls k a1 t610 t611 t612 _ A6.out).mono ?_); rintro e w47 ⟨rfl, hb⟩; refine ⟨_, rfl, ?_⟩; replace HO0 := Aside0.mk (Kd.V_below HO0.out hb); replace BK609 := Aside0.mk (blk_below BK609.out hb); replace HB := Aside0.mk (below_step HB.out hb); clear hb; obtain ⟨hcz48_0, hcz48_1, hcz48_2, hcz48_3, hcz48_4, hcz48_5, hfz48_0, hfz48_1, hfz48_2, hfz48_3, hfz48_4, hfz48_5⟩ := cz6_ BK609.out))
   refine bodyPost_ret (results_ctt rfl _ _ gb609 43 #[.string (⟨#[]⟩ : ByteArray), .string (⟨#[]⟩ : ByteArray), .int .i64 0, .bool false, .string (⟨#[]⟩ : ByteArray), .slice none 0 0] (0, 0) _ rfl (put6_ BK609.out _ _ _ _ _ _) Tryz.underlying43 rfl (by kernel_rfl)) rfl ?_
   exact ⟨_, rfl, Kd.V_nil _ _ _ _ _, by (repeat (with_reducible first | exact HB.out | refine below_set ?_ GE609.out))⟩
def wicketref11_Authenticate.j0 : Nat → List (S43) → ByteArray → ByteArray → Bool → ByteArray → Bool → Bool → Option (ByteArray × ByteArray × Int × Bool × ByteArray × List ByteArray × Int × Int)
 | 0, _, _, _, _, _, _, _ => none
 | k + 1, x0, x1, x9, x10, x12, x13, x34 => if x34 = true then (some ((⟨#[]⟩ : ByteArray), (⟨#[]⟩ : ByteArray), 0, false, (⟨#[]⟩ : ByteArray), ([] : List ByteArray), 0, 34)) else (if x1.toList = ([] : List UInt8) then (if x10 = true then ((wicketref11_Find.f k x0 x9).bind fun bt640 => (if bt640.2.2.2.2.2.2 = true then (if bt640.2.1.toList = x12.toList then (if bt640.2.1.toList = ([] : List UInt8) then (some (bt640.1, bt640.2.1, bt640.2.2.1, bt640.2.2.2.1, bt640.2.2.2.2.1, bt640.2.2.2.2.2.1, 0, 0)) else (some (bt640.1, bt640.2.1, bt640.2.2.1, bt640.2.2.2.1, bt640.2.2.2.2.1, bt640.2.2.2.2.2.1, 2, 0))) else (some ((⟨#[]⟩ : ByteArray), (⟨#[]⟩ : ByteArray), 0, false, (⟨#[]⟩ : ByteArray), ([] : List ByteArray), 0, 112))) else (some ((⟨#[]⟩ : ByteArray), (⟨#[]⟩ : ByteArray), 0, false, (⟨#[]⟩ : ByteArray), ([] : List ByteArray), 0, 111)))) else (some ((⟨#[]⟩ : ByteArray), (⟨#[]⟩ : ByteArray), 0, false, (⟨#[]⟩ : ByteArray), ([] : List ByteArray), 0, 7))) else ((wicketref11_byHeader.f k x0 x1 x9 x10 x13).bind fun bt630 => (some (bt630.1, bt630.2.1, bt630.2.2.1, bt630.2.2.2.1, bt630.2.2.2.2.1, bt630.2.2.2.2.2.1, bt630.2.2.2.2.2.2.1, bt630.2.2.2.2.2.2.2))))
def wicketref11_Authenticate.f (k : Nat) (l0 : List (S43)) (a1 : ByteArray) (l2 : List (S121)) : Option (ByteArray × ByteArray × Int × Bool × ByteArray × List ByteArray × Int × Int) := (wicketref03_One.f k l2 (⟨#[99, 108, 105, 101, 110, 116, 95, 105, 100]⟩ : ByteArray)).bind fun bt624 => ((wicketref03_One.f k l2 (⟨#[99, 108, 105, 101, 110, 116, 95, 115, 101, 99, 114, 101, 116]⟩ : ByteArray)).bind fun bt627 => (if bt624.2.2 = 0 then (wicketref11_Authenticate.j0 k l0 a1 bt624.1 bt624.2.1 bt627.1 bt627.2.1 (bt627.2.2 != 0)) else (wicketref11_Authenticate.j0 k l0 a1 bt624.1 bt624.2.1 bt627.1 bt627.2.1 true)))
set_option maxHeartbeats 8000000 in
set_option maxRecDepth 100000 in
theorem wicketref11_Authenticate.calls (k : Nat) (P0_ : Nat → Prop) (A0 : Option Addr) (c0 : Nat) (l0 : List (S43)) (a1 : ByteArray) (A2 : Option Addr) (c2 : Nat) (l2 : List (S121)) (r1 : ByteArray) (r2 : ByteArray) (r3 : Int) (r4 : Bool) (r5 : ByteArray) (r6 : List ByteArray) (r7 : Int) (r8 : Int) (w : World) (hs0 : Kd.V k43 43 w w.heap.size (fun k_ => P0_ k_) (.slice A0 l0.length c0) l0) (hr2 : Kd.C k121 w A2 l2.length l2) (hc2 : l2.length ≤ c2) (h : wicketref11_Authenticate.f k l0 a1 l2 = some (r1, r2, r3, r4, r5, r6, r7, r8)) :
 Calls Tryz.prog 35 #[.slice A0 l0.length c0, .string a1, .slice A2 l2.length c2] w fun e w' => ∃ v5_ : Value, e = .returned (.tuple #[.agg #[.string r1, .string r2, .int .i64 r3, .bool r4, .string r5, v5_], .int .i64 r7, .int .i64 r8]) ∧ Kd.V Kd.string 9 w' w.heap.size (fun k_ => (P0_ k_ ∨ w.heap.size ≤ k_)) v5_ r6 ∧ Below w.heap.size w w' := by
 have hu43 := Tryz.underlying43
 have HO0 := Aside0.mk (show Kd.V k43 43 w w.heap.size (fun k_ => (P0_ k_ ∨ w.heap.size ≤ k_)) (.slice A0 l0.length c0) l0 from Kd.V_mono hs0 (fun k_ hk => .inl hk))
 have HR2 := Aside0.mk hr2
 have HC2 := Aside0.mk hc2
 clear hr2 hc2
 have HB := Aside0.mk (Below.refl w.heap.size w)
 have H : ((wicketref03_One.f k l2 (⟨#[99, 108, 105, 101, 110, 116, 95, 105, 100]⟩ : ByteArray)).bind fun bt624 => ((wicketref03_One.f k l2 (⟨#[99, 108, 105, 101, 110, 116, 95, 115, 101, 99, 114, 101, 116]⟩ : ByteArray)).bind fun bt627 => (if bt624.2.2 = 0 then (wicketref11_Authenticate.j0 k l0 a1 bt624.1 bt624.2.1 bt627.1 bt627.2.1 (bt627.2.2 != 0)) else (wicketref11_Authenticate.j0 k l0 a1 bt624.1 bt624.2.1 bt627.1 bt627.2.1 true)))) = some (r1, r2, r3, r4, r5, r6, r7, r8) := h
 clear h
 replace H := Option.bind_eq_some_iff.mp H
 obtain ⟨⟨t624, t625, t626⟩, A40, H⟩ := H
 replace H : ((wicketref03_One.f k l2 (⟨#[99, 108, 105, 101, 110, 116, 95, 115, 101, 99, 114, 101, 116]⟩ : ByteArray)).bind fun bt627 => (if t626 = 0 then (wicketref11_Authenticate.j0 k l0 a1 t624 t625 bt627.1 bt627.2.1 (bt627.2.2 != 0)) else (wicketref11_Authenticate.j0 k l0 a1 t624 t625 bt627.1 bt627.2.1 true))) = some (r1, r2, r3, r4, r5, r6, r7, r8) := H
 have A4 := Aside0.mk A40
 clear A40
 replace H := Option.bind_eq_some_iff.mp H
 obtain ⟨⟨t627, t628, t629⟩, A50, H⟩ := H
 replace H : (if t626 = 0 then (wicketref11_Authenticate.j0 k l0 a1 t624 t625 t627 t628 (t629 != 0)) else (wicketref11_Authenticate.j0 k l0 a1 t624 t625 t627 t628 true)) = some (r1, r2, r3, r4, r5, r6, r7, r8) := H
 have A5 := Aside0.mk A50
 clear A50
 have HC6 := Aside0.mk H
 clear H
 go_enter Tryz.func35, Tryz.ntmps35
 go_upto_region 3 with (first | ((with_reducible refine gate_dst (N := 6) rfl ?_); refine box_event (by rfl) (N := 6) (by rfl) (cs := #[.string (⟨#[]⟩ : ByteArray), .string (⟨#[]⟩ : ByteArray), .int .i64 0, .bool false, .string (⟨#[]⟩ : ByteArray), .slice none 0 0]) (t := 43) (by go_simp) ?_; intro gb623 hg w7 hbox hb; replace HO0 := Aside0.mk (Kd.V_below (Kd.V_elderB HO0.out gb623 (Nat.le_of_eq hg.symm)) hb); have BK623 := Aside0.mk hbox; have GW623 := Aside0.mk ((by rw [hg]; exact (below_size HB.out) : w.heap.size ≤ gb623)); have GE623 := Aside0.mk ((by rw [hg]; exact (below_size HB.out) : w.heap.size ≤ gb623)); replace HB := Aside0.mk (below_step HB.out hb); clear hb hbox hg) | ((with_reducible refine gate_callee (f := 39) rfl ?_); refine goesL_ (some 19) rfl rfl Tryz.func39 (by kernel_rfl) rfl #[.slice A2 l2.length c2, .string (⟨#[99, 108, 105, 101, 110, 116, 95, 105, 100]⟩ : ByteArray)] rfl (by ((try simp only [List.map_toArray, List.map_cons, List.map_nil]); (rfl))) ?_; (with_reducible refine (wicketref03_One.calls k _ _ l2 (⟨#[99, 108, 105, 101, 110, 116, 95, 105, 100]⟩ : ByteArray) t624 t625 t626 _ ?side1 ?side2 A4.out).mono ?_); (case side1 => repeat (exact (Kd.C_below HR2.out HB.out))); (case side2 => exact HC2.out); rintro e w' ⟨rfl, ⟨nd, rfl⟩⟩; refine ⟨_, rfl, ?_⟩) | ((with_reducible refine gate_callee (f := 39) rfl ?_); refine goesL_ (some 25) rfl rfl Tryz.func39 (by kernel_rfl) rfl #[.slice A2 l2.length c2, .string (⟨#[99, 108, 105, 101, 110, 116, 95, 115, 101, 99, 114, 101, 116]⟩ : ByteArray)] rfl (by ((try simp only [List.map_toArray, List.map_cons, List.map_nil]); (rfl))) ?_; (with_reducible refine (wicketref03_One.calls k _ _ l2 (⟨#[99, 108, 105, 101, 110, 116, 95, 115, 101, 99, 114, 101, 116]⟩ : ByteArray) t627 t628 t629 _ ?side1 ?side2 A5.out).mono ?_); (case side1 => repeat (exact (Kd.C_below HR2.out (by (repeat (with_reducible first | exact HB.out | apply pw_below_drewN)))))); (case side2 => exact HC2.out); rintro e w' ⟨rfl, ⟨nd, rfl⟩⟩; refine ⟨_, rfl, ?_⟩))
 go_cut [34] (fun v34 wc => ∃ (kq : Nat) (x34_5 : Bool), v34 = .bool x34_5 ∧ Aside0 (wicketref11_Authenticate.j0 kq l0 a1 t624 t625 t627 t628 x34_5 = some (r1, r2, r3, r4, r5, r6, r7, r8)) ∧ Aside0 (kq ≤ k) ∧ Aside0 (Kd.V k43 43 wc w.heap.size (fun k_ => (P0_ k_ ∨ w.heap.size ≤ k_) ∧ k_ ≠ gb623) (.slice A0 l0.length c0) l0) ∧ Aside0 (wc.heap[gb623]? = some (.cells #[.string (⟨#[]⟩ : ByteArray), .string (⟨#[]⟩ : ByteArray), .int .i64 0, .bool false, .string (⟨#[]⟩ : ByteArray), (.slice none 0 0)] 43 (0, 0))) ∧ Aside0 (Below w.heap.size w wc))
 case first =>
  have H := HC6.out
  clear HC6
  by_cases c8 : t626 = 0
  · rw [if_pos c8] at H
    have c8b0 : (t626 == 0) = true := beq_iff_eq.mpr c8
    have c8b1 : (t626 != 0) = false := bne_eq_false_iff_eq.mpr c8
    clear c8
    have H' := Aside0.mk H
    clear H
    go_wp2
    go_meet
    case rel => exact ⟨_, ((t629 != 0)), rfl, H', ⟨by (omega)⟩, ⟨by ((with_reducible repeat (apply Kd.V_drewN)); exact HO0.out)⟩, ⟨by ((with_reducible repeat (refine blk_drewN ?_ _)); exact BK623.out)⟩, ⟨by (repeat (with_reducible first | exact HB.out | apply pw_below_drewN))⟩⟩
  · rw [if_neg c8] at H
    have c8b0 : (t626 == 0) = false := beq_eq_false_iff_ne.mpr c8
    have c8b1 : (t626 != 0) = true := bne_iff_ne.mpr c8
    have H' := Aside0.mk H
    clear H
    go_wp2
    go_meet
    case rel => exact ⟨_, (true), rfl, H', ⟨by (omega)⟩, ⟨by ((with_reducible repeat (apply Kd.V_drewN)); exact HO0.out)⟩, ⟨by ((with_reducible repeat (refine blk_drewN ?_ _)); exact BK623.out)⟩, ⟨by (repeat (with_reducible first | exact HB.out | apply pw_below_drewN))⟩⟩
 case rest =>
  clear HC6
  obtain ⟨kq, x34_5, rfl, HA, HJ5, HO_0, BK623, HB⟩ := hcut
  cases kq with
  | zero => exact absurd HA.out (by simp [wicketref11_Authenticate.j0])
  | succ kj5 =>
   have H := HA.out
   clear HA
   simp only [wicketref11_Authenticate.j0] at H
   by_cases c9 : x34_5 = true
   · subst c9
     have H1 : (some ((⟨#[]⟩ : ByteArray), (⟨#[]⟩ : ByteArray), 0, false, (⟨#[]⟩ : ByteArray), ([] : List ByteArray), 0, 34)) = some (r1, r2, r3, r4, r5, r6, r7, r8) := by rw [if_pos rfl] at H; exact H
     clear H
     have H := H1
     clear H1
     simp only [Option.some.injEq, Prod.mk.injEq] at H
     obtain ⟨rfl, rfl, rfl, rfl, rfl, rfl, rfl, rfl⟩ := H
     obtain ⟨hcz10_0, hcz10_1, hcz10_2, hcz10_3, hcz10_4, hcz10_5, hfz10_0, hfz10_1, hfz10_2, hfz10_3, hfz10_4, hfz10_5⟩ := cz6_ BK623.out
     go_wp2
     refine bodyPost_ret (results_ctt rfl _ _ gb623 43 #[.string (⟨#[]⟩ : ByteArray), .string (⟨#[]⟩ : ByteArray), .int .i64 0, .bool false, .string (⟨#[]⟩ : ByteArray), .slice none 0 0] (0, 0) _ rfl (put6_ BK623.out _ _ _ _ _ _) Tryz.underlying43 rfl (by kernel_rfl)) rfl ?_
     exact ⟨_, rfl, Kd.V_nil _ _ _ _ _, by (repeat (with_reducible first | exact HB.out | refine below_set ?_ GE623.out))⟩
   · replace c9 := Bool.eq_false_iff.mpr c9
     subst c9
     have H1 : (if a1.toList = ([] : List UInt8) then (if t625 = true then ((wicketref11_Find.f kj5 l0 t624).bind fun bt640 => (if bt640.2.2.2.2.2.2 = true then (if bt640.2.1.toList = t627.toList then (if bt640.2.1.toList = ([] : List UInt8) then (some (bt640.1, bt640.2.1, bt640.2.2.1, bt640.2.2.2.1, bt640.2.2.2.2.1, bt640.2.2.2.2.2.1, 0, 0)) else (some (bt640.1, bt640.2.1, bt640.2.2.1, bt640.2.2.2.1, bt640.2.2.2.2.1, bt640.2.2.2.2.2.1, 2, 0))) else (some ((⟨#[]⟩ : ByteArray), (⟨#[]⟩ : ByteArray), 0, false, (⟨#[]⟩ : ByteArray), ([] : List ByteArray), 0, 112))) else (some ((⟨#[]⟩ : ByteArray), (⟨#[]⟩ : ByteArray), 0, false, (⟨#[]⟩ : ByteArray), ([] : List ByteArray), 0, 111)))) else (some ((⟨#[]⟩ : ByteArray), (⟨#[]⟩ : ByteArray), 0, false, (⟨#[]⟩ : ByteArray), ([] : List ByteArray), 0, 7))) else ((wicketref11_byHeader.f kj5 l0 a1 t624 t625 t628).bind fun bt630 => (some (bt630.1, bt630.2.1, bt630.2.2.1, bt630.2.2.2.1, bt630.2.2.2.2.1, bt630.2.2.2.2.2.1, bt630.2.2.2.2.2.2.1, bt630.2.2.2.2.2.2.2)))) = some (r1, r2, r3, r4, r5, r6, r7, r8) := by rw [if_neg (show ¬ (false = true) by decide)] at H; exact H
     clear H
     have H := H1
     clear H1
     by_cases c11 : a1.toList = ([] : List UInt8)
     · rw [if_pos c11] at H
       have c11b0 : (a1.toList == ([] : List UInt8)) = true := beq_iff_eq.mpr c11
       have c11b1 : (a1.toList != ([] : List UInt8)) = false := bne_eq_false_iff_eq.mpr c11
       clear c11
       by_cases c12 : t625 = true
       · subst c12
         have H1 : ((wicketref11_Find.f kj5 l0 t624).bind fun bt640 => (if bt640.2.2.2.2.2.2 = true then (if bt640.2.1.toList = t627.toList then (if bt640.2.1.toList = ([] : List UInt8) then (some (bt640.1, bt640.2.1, bt640.2.2.1, bt640.2.2.2.1, bt640.2.2.2.2.1, bt640.2.2.2.2.2.1, 0, 0)) else (some (bt640.1, bt640.2.1, bt640.2.2.1, bt640.2.2.2.1, bt640.2.2.2.2.1, bt640.2.2.2.2.2.1, 2, 0))) else (some ((⟨#[]⟩ : ByteArray), (⟨#[]⟩ : ByteArray), 0, false, (⟨#[]⟩ : ByteArray), ([] : List ByteArray), 0, 112))) else (some ((⟨#[]⟩ : ByteArray), (⟨#[]⟩ : ByteArray), 0, false, (⟨#[]⟩ : ByteArray), ([] : List ByteArray), 0, 111)))) = some (r1, r2, r3, r4, r5, r6, r7, r8) := by rw [if_pos rfl] at H; exact H
         clear H
         have H := H1
         clear H1
         replace H := Option.bind_eq_some_iff.mp H
         obtain ⟨⟨t640, t641, t642, t643, t644, t645, t648⟩, A130, H⟩ := H
         replace H : (if t648 = true then (if t641.toList = t627.toList then (if t641.toList = ([] : List UInt8) then (some (t640, t641, t642, t643, t644, t645, 0, 0)) else (some (t640, t641, t642, t643, t644, t645, 2, 0))) else (some ((⟨#[]⟩ : ByteArray), (⟨#[]⟩ : ByteArray), 0, false, (⟨#[]⟩ : ByteArray), ([] : List ByteArray), 0, 112))) else (some ((⟨#[]⟩ : ByteArray), (⟨#[]⟩ : ByteArray), 0, false, (⟨#[]⟩ : ByteArray), ([] : List ByteArray), 0, 111))) = some (r1, r2, r3, r4, r5, r6, r7, r8) := H
         have A13 := Aside0.mk A130
         clear A130
         by_cases c14 : t648 = true
         · subst c14
           have H1 : (if t641.toList = t627.toList then (if t641.toList = ([] : List UInt8) then (some (t640, t641, t642, t643, t644, t645, 0, 0)) else (some (t640, t641, t642, t643, t644, t645, 2, 0))) else (some ((⟨#[]⟩ : ByteArray), (⟨#[]⟩ : ByteArray), 0, false, (⟨#[]⟩ : ByteArray), ([] : List ByteArray), 0, 112))) = some (r1, r2, r3, r4, r5, r6, r7, r8) := by rw [if_pos rfl] at H; exact H
           clear H
           have H := H1
           clear H1
           by_cases c15 : t641.toList = t627.toList
           · rw [if_pos c15] at H
             have c15b0 : (t641.toList == t627.toList) = true := beq_iff_eq.mpr c15
             have c15b1 : (t641.toList != t627.toList) = false := bne_eq_false_iff_eq.mpr c15
             clear c15
             by_cases c16 : t641.toList = ([] : List UInt8)
             · rw [if_pos c16] at H
               have c16b0 : (t641.toList == ([] : List UInt8)) = true := beq_iff_eq.mpr c16
               have c16b1 : (t641.toList != ([] : List UInt8)) = false := bne_eq_false_iff_eq.mpr c16
               clear c16
               simp only [Option.some.injEq, Prod.mk.injEq] at H
               obtain ⟨rfl, rfl, rfl, rfl, rfl, rfl, rfl, rfl⟩ := H
               go_wp2_with (first | ((with_reducible refine gate_callee (f := 30) rfl ?_); refine goesL_ (some 53) rfl rfl Tryz.func30 (by kernel_rfl) rfl #[.slice A0 l0.length c0, .string t624] rfl (by ((try simp only [List.map_toArray, List.map_cons, List.map_nil]); (rfl))) ?_; (with_reducible refine (wicketref11_Find.calls kj5 (fun k_ => ((P0_ k_ ∨ w.heap.size ≤ k_) ∧ k_ ≠ gb623)) _ _ l0 t624 t640 t641 t642 t643 t644 t645 true _ ?side1 A13.out).mono ?_); (case side1 => exact HO_0.out); rintro e w17 ⟨v646, rfl, ho0, hb⟩; refine ⟨_, rfl, ?_⟩; replace HO_0 := Aside0.mk (Kd.V_below HO_0.out hb); have HO647 := Aside0.mk (Kd.V_lower (Kd.V_mono (ok' := fun k_ => (P0_ k_ ∨ w.heap.size ≤ k_) ∧ k_ ≠ gb623) ho0 (fun k_ hk_ => ⟨Or.elim hk_ (fun hs_ => hs_.1) (fun hn_ => (.inr (Nat.le_trans (below_size HB.out) hn_))), Or.elim hk_ (fun hs_ => hs_.2) (fun hn_ => (Kd.freshB (g := gb623) (o := .cells #[.string (⟨#[]⟩ : ByteArray), .string (⟨#[]⟩ : ByteArray), .int .i64 0, .bool false, .string (⟨#[]⟩ : ByteArray), .slice none 0 0] 43 (0, 0)) BK623.out k_ hn_))⟩)) (below_size HB.out)); replace BK623 := Aside0.mk (blk_below BK623.out hb); replace HB := Aside0.mk (below_step HB.out hb); clear hb ho0) | ((with_reducible refine gate_dst (N := 15) rfl ?_); refine box_event (by rfl) (N := 15) (by rfl) (cs := #[.string (⟨#[]⟩ : ByteArray), .string (⟨#[]⟩ : ByteArray), .int .i64 0, .bool false, .string (⟨#[]⟩ : ByteArray), .slice none 0 0]) (t := 43) (by go_simp) ?_; intro gb649 hg w18 hbox hb; replace HO_0 := Aside0.mk (Kd.V_below (Kd.V_elderB HO_0.out gb649 (Nat.le_of_eq hg.symm)) hb); replace HO647 := Aside0.mk (Kd.V_below (Kd.V_elderB HO647.out gb649 (Nat.le_of_eq hg.symm)) hb); have BK649 := Aside0.mk hbox; have GW649 := Aside0.mk ((by rw [hg]; exact (below_size HB.out) : w.heap.size ≤ gb649)); have GE649 := Aside0.mk ((by rw [hg]; exact (below_size HB.out) : w.heap.size ≤ gb649)); replace HB := Aside0.mk (below_step HB.out hb); have NB623_649 := Aside0.mk ((by rw [hg]; exact Nat.ne_of_lt (blk_lt BK623.out) : gb623 ≠ gb649)); have NB649_623 := Aside0.mk ((by rw [hg]; exact Nat.ne_of_gt (blk_lt BK623.out) : gb649 ≠ gb623)); replace BK623 := Aside0.mk (blk_below BK623.out hb); clear hb hbox hg; have hnb19 := NB649_623.out; have hnc19 := NB623_649.out; obtain ⟨hcz20_0, hcz20_1, hcz20_2, hcz20_3, hcz20_4, hcz20_5, hfz20_0, hfz20_1, hfz20_2, hfz20_3, hfz20_4, hfz20_5⟩ := cz6_ BK649.out; obtain ⟨Ao21, co21, eo21⟩ := Kd.V_slice HO647.out; subst eo21; obtain ⟨hcz22_0, hcz22_1, hcz22_2, hcz22_3, hcz22_4, hcz22_5, hfz22_0, hfz22_1, hfz22_2, hfz22_3, hfz22_4, hfz22_5⟩ := cz6_ BK623.out))
               refine bodyPost_ret (results_ctt rfl _ _ gb623 43 #[.string t640, .string t641, .int .i64 t642, .bool t643, .string t644, .slice Ao21 t645.length co21] (0, 0) _ rfl (by (with_reducible repeat (first | refine blk_drewN ?_ _  | refine blk_drew ?_  | refine blk_alloc ?_ _)); refine blk_put (cs := #[.string t640, .string t641, .int .i64 t642, .bool t643, .string t644, .slice none 0 0]) ?_ 5 _ rfl; (with_reducible repeat (first | refine blk_drewN ?_ _  | refine blk_drew ?_  | refine blk_alloc ?_ _)); refine blk_put (cs := #[.string t640, .string t641, .int .i64 t642, .bool t643, .string (⟨#[]⟩ : ByteArray), .slice none 0 0]) ?_ 4 _ rfl; (with_reducible repeat (first | refine blk_drewN ?_ _  | refine blk_drew ?_  | refine blk_alloc ?_ _)); refine blk_put (cs := #[.string t640, .string t641, .int .i64 t642, .bool false, .string (⟨#[]⟩ : ByteArray), .slice none 0 0]) ?_ 3 _ rfl; (with_reducible repeat (first | refine blk_drewN ?_ _  | refine blk_drew ?_  | refine blk_alloc ?_ _)); refine blk_put (cs := #[.string t640, .string t641, .int .i64 0, .bool false, .string (⟨#[]⟩ : ByteArray), .slice none 0 0]) ?_ 2 _ rfl; (with_reducible repeat (first | refine blk_drewN ?_ _  | refine blk_drew ?_  | refine blk_alloc ?_ _)); refine blk_put (cs := #[.string t640, .string (⟨#[]⟩ : ByteArray), .int .i64 0, .bool false, .string (⟨#[]⟩ : ByteArray), .slice none 0 0]) ?_ 1 _ rfl; (with_reducible repeat (first | refine blk_drewN ?_ _  | refine blk_drew ?_  | refine blk_alloc ?_ _)); refine blk_put (cs := #[.string (⟨#[]⟩ : ByteArray), .string (⟨#[]⟩ : ByteArray), .int .i64 0, .bool false, .string (⟨#[]⟩ : ByteArray), .slice none 0 0]) ?_ 0 _ rfl; (with_reducible repeat (first | refine blk_drewN ?_ _  | refine blk_drew ?_  | refine blk_alloc ?_ _)); refine blk_far ?_ NB623_649.out _; (with_reducible repeat (first | refine blk_drewN ?_ _  | refine blk_drew ?_  | refine blk_alloc ?_ _)); refine blk_far ?_ NB623_649.out _; (with_reducible repeat (first | refine blk_drewN ?_ _  | refine blk_drew ?_  | refine blk_alloc ?_ _)); refine blk_far ?_ NB623_649.out _; (with_reducible repeat (first | refine blk_drewN ?_ _  | refine blk_drew ?_  | refine blk_alloc ?_ _)); refine blk_far ?_ NB623_649.out _; (with_reducible repeat (first | refine blk_drewN ?_ _  | refine blk_drew ?_  | refine blk_alloc ?_ _)); refine blk_far ?_ NB623_649.out _; (with_reducible repeat (first | refine blk_drewN ?_ _  | refine blk_drew ?_  | refine blk_alloc ?_ _)); refine blk_far ?_ NB623_649.out _; (with_reducible repeat (first | refine blk_drewN ?_ _  | refine blk_drew ?_  | refine blk_alloc ?_ _)); exact BK623.out) Tryz.underlying43 rfl (by kernel_rfl)) rfl ?_
               exact ⟨_, rfl, by (with_reducible repeat (first | apply Kd.V_alloc  | apply Kd.V_drewN  | apply Kd.V_drew)); exact Kd.V_mono (V_far6 (V_far6 (Kd.V_mono (Kd.V_mono HO647.out (fun k_ hk => (⟨hk, hk.2⟩ : _ ∧ k_ ≠ gb649))) (fun k_ hk => (⟨hk, hk.1.1.2⟩ : _ ∧ k_ ≠ gb623))) (fun _ hk => hk.1.2)) (fun _ hk => hk.2)) (fun _ hk => hk.1.1.1.1), by (repeat (with_reducible first | exact HB.out | refine below_set ?_ GE623.out | refine below_set ?_ GE649.out))⟩
             · rw [if_neg c16] at H
               have c16b0 : (t641.toList == ([] : List UInt8)) = false := beq_eq_false_iff_ne.mpr c16
               have c16b1 : (t641.toList != ([] : List UInt8)) = true := bne_iff_ne.mpr c16
               simp only [Option.some.injEq, Prod.mk.injEq] at H
               obtain ⟨rfl, rfl, rfl, rfl, rfl, rfl, rfl, rfl⟩ := H
               go_wp2_with (first | ((with_reducible refine gate_callee (f := 30) rfl ?_); refine goesL_ (some 53) rfl rfl Tryz.func30 (by kernel_rfl) rfl #[.slice A0 l0.length c0, .string t624] rfl (by ((try simp only [List.map_toArray, List.map_cons, List.map_nil]); (rfl))) ?_; (with_reducible refine (wicketref11_Find.calls kj5 (fun k_ => ((P0_ k_ ∨ w.heap.size ≤ k_) ∧ k_ ≠ gb623)) _ _ l0 t624 t640 t641 t642 t643 t644 t645 true _ ?side1 A13.out).mono ?_); (case side1 => exact HO_0.out); rintro e w23 ⟨v646, rfl, ho0, hb⟩; refine ⟨_, rfl, ?_⟩; replace HO_0 := Aside0.mk (Kd.V_below HO_0.out hb); have HO647 := Aside0.mk (Kd.V_lower (Kd.V_mono (ok' := fun k_ => (P0_ k_ ∨ w.heap.size ≤ k_) ∧ k_ ≠ gb623) ho0 (fun k_ hk_ => ⟨Or.elim hk_ (fun hs_ => hs_.1) (fun hn_ => (.inr (Nat.le_trans (below_size HB.out) hn_))), Or.elim hk_ (fun hs_ => hs_.2) (fun hn_ => (Kd.freshB (g := gb623) (o := .cells #[.string (⟨#[]⟩ : ByteArray), .string (⟨#[]⟩ : ByteArray), .int .i64 0, .bool false, .string (⟨#[]⟩ : ByteArray), .slice none 0 0] 43 (0, 0)) BK623.out k_ hn_))⟩)) (below_size HB.out)); replace BK623 := Aside0.mk (blk_below BK623.out hb); replace HB := Aside0.mk (below_step HB.out hb); clear hb ho0) | ((with_reducible refine gate_dst (N := 15) rfl ?_); refine box_event (by rfl) (N := 15) (by rfl) (cs := #[.string (⟨#[]⟩ : ByteArray), .string (⟨#[]⟩ : ByteArray), .int .i64 0, .bool false, .string (⟨#[]⟩ : ByteArray), .slice none 0 0]) (t := 43) (by go_simp) ?_; intro gb649 hg w24 hbox hb; replace HO_0 := Aside0.mk (Kd.V_below (Kd.V_elderB HO_0.out gb649 (Nat.le_of_eq hg.symm)) hb); replace HO647 := Aside0.mk (Kd.V_below (Kd.V_elderB HO647.out gb649 (Nat.le_of_eq hg.symm)) hb); have BK649 := Aside0.mk hbox; have GW649 := Aside0.mk ((by rw [hg]; exact (below_size HB.out) : w.heap.size ≤ gb649)); have GE649 := Aside0.mk ((by rw [hg]; exact (below_size HB.out) : w.heap.size ≤ gb649)); replace HB := Aside0.mk (below_step HB.out hb); have NB623_649 := Aside0.mk ((by rw [hg]; exact Nat.ne_of_lt (blk_lt BK623.out) : gb623 ≠ gb649)); have NB649_623 := Aside0.mk ((by rw [hg]; exact Nat.ne_of_gt (blk_lt BK623.out) : gb649 ≠ gb623)); replace BK623 := Aside0.mk (blk_below BK623.out hb); clear hb hbox hg; have hnb25 := NB649_623.out; have hnc25 := NB623_649.out; obtain ⟨hcz26_0, hcz26_1, hcz26_2, hcz26_3, hcz26_4, hcz26_5, hfz26_0, hfz26_1, hfz26_2, hfz26_3, hfz26_4, hfz26_5⟩ := cz6_ BK649.out; obtain ⟨Ao27, co27, eo27⟩ := Kd.V_slice HO647.out; subst eo27; obtain ⟨hcz28_0, hcz28_1, hcz28_2, hcz28_3, hcz28_4, hcz28_5, hfz28_0, hfz28_1, hfz28_2, hfz28_3, hfz28_4, hfz28_5⟩ := cz6_ BK623.out))
               refine bodyPost_ret (results_ctt rfl _ _ gb623 43 #[.string t640, .string t641, .int .i64 t642, .bool t643, .string t644, .slice Ao27 t645.length co27] (0, 0) _ rfl (by (with_reducible repeat (first | refine blk_drewN ?_ _  | refine blk_drew ?_  | refine blk_alloc ?_ _)); refine blk_put (cs := #[.string t640, .string t641, .int .i64 t642, .bool t643, .string t644, .slice none 0 0]) ?_ 5 _ rfl; (with_reducible repeat (first | refine blk_drewN ?_ _  | refine blk_drew ?_  | refine blk_alloc ?_ _)); refine blk_put (cs := #[.string t640, .string t641, .int .i64 t642, .bool t643, .string (⟨#[]⟩ : ByteArray), .slice none 0 0]) ?_ 4 _ rfl; (with_reducible repeat (first | refine blk_drewN ?_ _  | refine blk_drew ?_  | refine blk_alloc ?_ _)); refine blk_put (cs := #[.string t640, .string t641, .int .i64 t642, .bool false, .string (⟨#[]⟩ : ByteArray), .slice none 0 0]) ?_ 3 _ rfl; (with_reducible repeat (first | refine blk_drewN ?_ _  | refine blk_drew ?_  | refine blk_alloc ?_ _)); refine blk_put (cs := #[.string t640, .string t641, .int .i64 0, .bool false, .string (⟨#[]⟩ : ByteArray), .slice none 0 0]) ?_ 2 _ rfl; (with_reducible repeat (first | refine blk_drewN ?_ _  | refine blk_drew ?_  | refine blk_alloc ?_ _)); refine blk_put (cs := #[.string t640, .string (⟨#[]⟩ : ByteArray), .int .i64 0, .bool false, .string (⟨#[]⟩ : ByteArray), .slice none 0 0]) ?_ 1 _ rfl; (with_reducible repeat (first | refine blk_drewN ?_ _  | refine blk_drew ?_  | refine blk_alloc ?_ _)); refine blk_put (cs := #[.string (⟨#[]⟩ : ByteArray), .string (⟨#[]⟩ : ByteArray), .int .i64 0, .bool false, .string (⟨#[]⟩ : ByteArray), .slice none 0 0]) ?_ 0 _ rfl; (with_reducible repeat (first | refine blk_drewN ?_ _  | refine blk_drew ?_  | refine blk_alloc ?_ _)); refine blk_far ?_ NB623_649.out _; (with_reducible repeat (first | refine blk_drewN ?_ _  | refine blk_drew ?_  | refine blk_alloc ?_ _)); refine blk_far ?_ NB623_649.out _; (with_reducible repeat (first | refine blk_drewN ?_ _  | refine blk_drew ?_  | refine blk_alloc ?_ _)); refine blk_far ?_ NB623_649.out _; (with_reducible repeat (first | refine blk_drewN ?_ _  | refine blk_drew ?_  | refine blk_alloc ?_ _)); refine blk_far ?_ NB623_649.out _; (with_reducible repeat (first | refine blk_drewN ?_ _  | refine blk_drew ?_  | refine blk_alloc ?_ _)); refine blk_far ?_ NB623_649.out _; (with_reducible repeat (first | refine blk_drewN ?_ _  | refine blk_drew ?_  | refine blk_alloc ?_ _)); refine blk_far ?_ NB623_649.out _; (with_reducible repeat (first | refine blk_drewN ?_ _  | refine blk_drew ?_  | refine blk_alloc ?_ _)); exact BK623.out) Tryz.underlying43 rfl (by kernel_rfl)) rfl ?_
               exact ⟨_, rfl, by (with_reducible repeat (first | apply Kd.V_alloc  | apply Kd.V_drewN  | apply Kd.V_drew)); exact Kd.V_mono (V_far6 (V_far6 (Kd.V_mono (Kd.V_mono HO647.out (fun k_ hk => (⟨hk, hk.2⟩ : _ ∧ k_ ≠ gb649))) (fun k_ hk => (⟨hk, hk.1.1.2⟩ : _ ∧ k_ ≠ gb623))) (fun _ hk => hk.1.2)) (fun _ hk => hk.2)) (fun _ hk => hk.1.1.1.1), by (repeat (with_reducible first | exact HB.out | refine below_set ?_ GE623.out | refine below_set ?_ GE649.out))⟩
           · rw [if_neg c15] at H
             have c15b0 : (t641.toList == t627.toList) = false := beq_eq_false_iff_ne.mpr c15
             have c15b1 : (t641.toList != t627.toList) = true := bne_iff_ne.mpr c15
             simp only [Option.some.injEq, Prod.mk.injEq] at H
             obtain ⟨rfl, rfl, rfl, rfl, rfl, rfl, rfl, rfl⟩ := H
             go_wp2_with (first | ((with_reducible refine gate_callee (f := 30) rfl ?_); refine goesL_ (some 53) rfl rfl Tryz.func30 (by kernel_rfl) rfl #[.slice A0 l0.length c0, .string t624] rfl (by ((try simp only [List.map_toArray, List.map_cons, List.map_nil]); (rfl))) ?_; (with_reducible refine (wicketref11_Find.calls kj5 (fun k_ => ((P0_ k_ ∨ w.heap.size ≤ k_) ∧ k_ ≠ gb623)) _ _ l0 t624 t640 t641 t642 t643 t644 t645 true _ ?side1 A13.out).mono ?_); (case side1 => exact HO_0.out); rintro e w29 ⟨v646, rfl, ho0, hb⟩; refine ⟨_, rfl, ?_⟩; replace HO_0 := Aside0.mk (Kd.V_below HO_0.out hb); have HO647 := Aside0.mk (Kd.V_lower (Kd.V_mono (ok' := fun k_ => (P0_ k_ ∨ w.heap.size ≤ k_) ∧ k_ ≠ gb623) ho0 (fun k_ hk_ => ⟨Or.elim hk_ (fun hs_ => hs_.1) (fun hn_ => (.inr (Nat.le_trans (below_size HB.out) hn_))), Or.elim hk_ (fun hs_ => hs_.2) (fun hn_ => (Kd.freshB (g := gb623) (o := .cells #[.string (⟨#[]⟩ : ByteArray), .string (⟨#[]⟩ : ByteArray), .int .i64 0, .bool false, .string (⟨#[]⟩ : ByteArray), .slice none 0 0] 43 (0, 0)) BK623.out k_ hn_))⟩)) (below_size HB.out)); replace BK623 := Aside0.mk (blk_below BK623.out hb); replace HB := Aside0.mk (below_step HB.out hb); clear hb ho0) | ((with_reducible refine gate_dst (N := 15) rfl ?_); refine box_event (by rfl) (N := 15) (by rfl) (cs := #[.string (⟨#[]⟩ : ByteArray), .string (⟨#[]⟩ : ByteArray), .int .i64 0, .bool false, .string (⟨#[]⟩ : ByteArray), .slice none 0 0]) (t := 43) (by go_simp) ?_; intro gb649 hg w30 hbox hb; replace HO_0 := Aside0.mk (Kd.V_below (Kd.V_elderB HO_0.out gb649 (Nat.le_of_eq hg.symm)) hb); replace HO647 := Aside0.mk (Kd.V_below (Kd.V_elderB HO647.out gb649 (Nat.le_of_eq hg.symm)) hb); have BK649 := Aside0.mk hbox; have GW649 := Aside0.mk ((by rw [hg]; exact (below_size HB.out) : w.heap.size ≤ gb649)); have GE649 := Aside0.mk ((by rw [hg]; exact (below_size HB.out) : w.heap.size ≤ gb649)); replace HB := Aside0.mk (below_step HB.out hb); have NB623_649 := Aside0.mk ((by rw [hg]; exact Nat.ne_of_lt (blk_lt BK623.out) : gb623 ≠ gb649)); have NB649_623 := Aside0.mk ((by rw [hg]; exact Nat.ne_of_gt (blk_lt BK623.out) : gb649 ≠ gb623)); replace BK623 := Aside0.mk (blk_below BK623.out hb); clear hb hbox hg; have hnb31 := NB649_623.out; have hnc31 := NB623_649.out; obtain ⟨hcz32_0, hcz32_1, hcz32_2, hcz32_3, hcz32_4, hcz32_5, hfz32_0, hfz32_1, hfz32_2, hfz32_3, hfz32_4, hfz32_5⟩ := cz6_ BK649.out; obtain ⟨Ao33, co33, eo33⟩ := Kd.V_slice HO647.out; subst eo33; obtain ⟨hcz34_0, hcz34_1, hcz34_2, hcz34_3, hcz34_4, hcz34_5, hfz34_0, hfz34_1, hfz34_2, hfz34_3, hfz34_4, hfz34_5⟩ := cz6_ BK623.out))
             refine bodyPost_ret (results_ctt rfl _ _ gb623 43 #[.string (⟨#[]⟩ : ByteArray), .string (⟨#[]⟩ : ByteArray), .int .i64 0, .bool false, .string (⟨#[]⟩ : ByteArray), .slice none 0 0] (0, 0) _ rfl (by (with_reducible repeat (first | refine blk_drewN ?_ _  | refine blk_drew ?_  | refine blk_alloc ?_ _)); refine blk_put (cs := #[.string (⟨#[]⟩ : ByteArray), .string (⟨#[]⟩ : ByteArray), .int .i64 0, .bool false, .string (⟨#[]⟩ : ByteArray), .slice none 0 0]) ?_ 5 _ rfl; (with_reducible repeat (first | refine blk_drewN ?_ _  | refine blk_drew ?_  | refine blk_alloc ?_ _)); refine blk_put (cs := #[.string (⟨#[]⟩ : ByteArray), .string (⟨#[]⟩ : ByteArray), .int .i64 0, .bool false, .string (⟨#[]⟩ : ByteArray), .slice none 0 0]) ?_ 4 _ rfl; (with_reducible repeat (first | refine blk_drewN ?_ _  | refine blk_drew ?_  | refine blk_alloc ?_ _)); refine blk_put (cs := #[.string (⟨#[]⟩ : ByteArray), .string (⟨#[]⟩ : ByteArray), .int .i64 0, .bool false, .string (⟨#[]⟩ : ByteArray), .slice none 0 0]) ?_ 3 _ rfl; (with_reducible repeat (first | refine blk_drewN ?_ _  | refine blk_drew ?_  | refine blk_alloc ?_ _)); refine blk_put (cs := #[.string (⟨#[]⟩ : ByteArray), .string (⟨#[]⟩ : ByteArray), .int .i64 0, .bool false, .string (⟨#[]⟩ : ByteArray), .slice none 0 0]) ?_ 2 _ rfl; (with_reducible repeat (first | refine blk_drewN ?_ _  | refine blk_drew ?_  | refine blk_alloc ?_ _)); refine blk_put (cs := #[.string (⟨#[]⟩ : ByteArray), .string (⟨#[]⟩ : ByteArray), .int .i64 0, .bool false, .string (⟨#[]⟩ : ByteArray), .slice none 0 0]) ?_ 1 _ rfl; (with_reducible repeat (first | refine blk_drewN ?_ _  | refine blk_drew ?_  | refine blk_alloc ?_ _)); refine blk_put (cs := #[.string (⟨#[]⟩ : ByteArray), .string (⟨#[]⟩ : ByteArray), .int .i64 0, .bool false, .string (⟨#[]⟩ : ByteArray), .slice none 0 0]) ?_ 0 _ rfl; (with_reducible repeat (first | refine blk_drewN ?_ _  | refine blk_drew ?_  | refine blk_alloc ?_ _)); refine blk_far ?_ NB623_649.out _; (with_reducible repeat (first | refine blk_drewN ?_ _  | refine blk_drew ?_  | refine blk_alloc ?_ _)); refine blk_far ?_ NB623_649.out _; (with_reducible repeat (first | refine blk_drewN ?_ _  | refine blk_drew ?_  | refine blk_alloc ?_ _)); refine blk_far ?_ NB623_649.out _; (with_reducible repeat (first | refine blk_drewN ?_ _  | refine blk_drew ?_  | refine blk_alloc ?_ _)); refine blk_far ?_ NB623_649.out _; (with_reducible repeat (first | refine blk_drewN ?_ _  | refine blk_drew ?_  | refine blk_alloc ?_ _)); refine blk_far ?_ NB623_649.out _; (with_reducible repeat (first | refine blk_drewN ?_ _  | refine blk_drew ?_  | refine blk_alloc ?_ _)); refine blk_far ?_ NB623_649.out _; (with_reducible repeat (first | refine blk_drewN ?_ _  | refine blk_drew ?_  | refine blk_alloc ?_ _)); exact BK623.out) Tryz.underlying43 rfl (by kernel_rfl)) rfl ?_
             exact ⟨_, rfl, Kd.V_nil _ _ _ _ _, by (repeat (with_reducible first | exact HB.out | refine below_set ?_ GE623.out | refine below_set ?_ GE649.out))⟩
         · replace c14 := Bool.eq_false_iff.mpr c14
           subst c14
           have H1 : (some ((⟨#[]⟩ : ByteArray), (⟨#[]⟩ : ByteArray), 0, false, (⟨#[]⟩ : ByteArray), ([] : List ByteArray), 0, 111)) = some (r1, r2, r3, r4, r5, r6, r7, r8) := by rw [if_neg (show ¬ (false = true) by decide)] at H; exact H
           clear H
           have H := H1
           clear H1
           simp only [Option.some.injEq, Prod.mk.injEq] at H
           obtain ⟨rfl, rfl, rfl, rfl, rfl, rfl, rfl, rfl⟩ := H
           go_wp2_with (first | ((with_reducible refine gate_callee (f := 30) rfl ?_); refine goesL_ (some 53) rfl rfl Tryz.func30 (by kernel_rfl) rfl #[.slice A0 l0.length c0, .string t624] rfl (by ((try simp only [List.map_toArray, List.map_cons, List.map_nil]); (rfl))) ?_; (with_reducible refine (wicketref11_Find.calls kj5 (fun k_ => ((P0_ k_ ∨ w.heap.size ≤ k_) ∧ k_ ≠ gb623)) _ _ l0 t624 t640 t641 t642 t643 t644 t645 false _ ?side1 A13.out).mono ?_); (case side1 => exact HO_0.out); rintro e w35 ⟨v646, rfl, ho0, hb⟩; refine ⟨_, rfl, ?_⟩; replace HO_0 := Aside0.mk (Kd.V_below HO_0.out hb); have HO647 := Aside0.mk (Kd.V_lower (Kd.V_mono (ok' := fun k_ => (P0_ k_ ∨ w.heap.size ≤ k_) ∧ k_ ≠ gb623) ho0 (fun k_ hk_ => ⟨Or.elim hk_ (fun hs_ => hs_.1) (fun hn_ => (.inr (Nat.le_trans (below_size HB.out) hn_))), Or.elim hk_ (fun hs_ => hs_.2) (fun hn_ => (Kd.freshB (g := gb623) (o := .cells #[.string (⟨#[]⟩ : ByteArray), .string (⟨#[]⟩ : ByteArray), .int .i64 0, .bool false, .string (⟨#[]⟩ : ByteArray), .slice none 0 0] 43 (0, 0)) BK623.out k_ hn_))⟩)) (below_size HB.out)); replace BK623 := Aside0.mk (blk_below BK623.out hb); replace HB := Aside0.mk (below_step HB.out hb); clear hb ho0) | ((with_reducible refine gate_dst (N := 15) rfl ?_); refine box_event (by rfl) (N := 15) (by rfl) (cs := #[.string (⟨#[]⟩ : ByteArray), .string (⟨#[]⟩ : ByteArray), .int .i64 0, .bool false, .string (⟨#[]⟩ : ByteArray), .slice none 0 0]) (t := 43) (by go_simp) ?_; intro gb649 hg w36 hbox hb; replace HO_0 := Aside0.mk (Kd.V_below (Kd.V_elderB HO_0.out gb649 (Nat.le_of_eq hg.symm)) hb); replace HO647 := Aside0.mk (Kd.V_below (Kd.V_elderB HO647.out gb649 (Nat.le_of_eq hg.symm)) hb); have BK649 := Aside0.mk hbox; have GW649 := Aside0.mk ((by rw [hg]; exact (below_size HB.out) : w.heap.size ≤ gb649)); have GE649 := Aside0.mk ((by rw [hg]; exact (below_size HB.out) : w.heap.size ≤ gb649)); replace HB := Aside0.mk (below_step HB.out hb); have NB623_649 := Aside0.mk ((by rw [hg]; exact Nat.ne_of_lt (blk_lt BK623.out) : gb623 ≠ gb649)); have NB649_623 := Aside0.mk ((by rw [hg]; exact Nat.ne_of_gt (blk_lt BK623.out) : gb649 ≠ gb623)); replace BK623 := Aside0.mk (blk_below BK623.out hb); clear hb hbox hg; have hnb37 := NB649_623.out; have hnc37 := NB623_649.out; obtain ⟨hcz38_0, hcz38_1, hcz38_2, hcz38_3, hcz38_4, hcz38_5, hfz38_0, hfz38_1, hfz38_2, hfz38_3, hfz38_4, hfz38_5⟩ := cz6_ BK649.out; obtain ⟨Ao39, co39, eo39⟩ := Kd.V_slice HO647.out; subst eo39; obtain ⟨hcz40_0, hcz40_1, hcz40_2, hcz40_3, hcz40_4, hcz40_5, hfz40_0, hfz40_1, hfz40_2, hfz40_3, hfz40_4, hfz40_5⟩ := cz6_ BK623.out))
           refine bodyPost_ret (results_ctt rfl _ _ gb623 43 #[.string (⟨#[]⟩ : ByteArray), .string (⟨#[]⟩ : ByteArray), .int .i64 0, .bool false, .string (⟨#[]⟩ : ByteArray), .slice none 0 0] (0, 0) _ rfl (by (with_reducible repeat (first | refine blk_drewN ?_ _  | refine blk_drew ?_  | refine blk_alloc ?_ _)); refine blk_put (cs := #[.string (⟨#[]⟩ : ByteArray), .string (⟨#[]⟩ : ByteArray), .int .i64 0, .bool false, .string (⟨#[]⟩ : ByteArray), .slice none 0 0]) ?_ 5 _ rfl; (with_reducible repeat (first | refine blk_drewN ?_ _  | refine blk_drew ?_  | refine blk_alloc ?_ _)); refine blk_put (cs := #[.string (⟨#[]⟩ : ByteArray), .string (⟨#[]⟩ : ByteArray), .int .i64 0, .bool false, .string (⟨#[]⟩ : ByteArray), .slice none 0 0]) ?_ 4 _ rfl; (with_reducible repeat (first | refine blk_drewN ?_ _  | refine blk_drew ?_  | refine blk_alloc ?_ _)); refine blk_put (cs := #[.string (⟨#[]⟩ : ByteArray), .string (⟨#[]⟩ : ByteArray), .int .i64 0, .bool false, .string (⟨#[]⟩ : ByteArray), .slice none 0 0]) ?_ 3 _ rfl; (with_reducible repeat (first | refine blk_drewN ?_ _  | refine blk_drew ?_  | refine blk_alloc ?_ _)); refine blk_put (cs := #[.string (⟨#[]⟩ : ByteArray), .string (⟨#[]⟩ : ByteArray), .int .i64 0, .bool false, .string (⟨#[]⟩ : ByteArray), .slice none 0 0]) ?_ 2 _ rfl; (with_reducible repeat (first | refine blk_drewN ?_ _  | refine blk_drew ?_  | refine blk_alloc ?_ _)); refine blk_put (cs := #[.string (⟨#[]⟩ : ByteArray), .string (⟨#[]⟩ : ByteArray), .int .i64 0, .bool false, .string (⟨#[]⟩ : ByteArray), .slice none 0 0]) ?_ 1 _ rfl; (with_reducible repeat (first | refine blk_drewN ?_ _  | refine blk_drew ?_  | refine blk_alloc ?_ _)); refine blk_put (cs := #[.string (⟨#[]⟩ : ByteArray), .string (⟨#[]⟩ : ByteArray), .int .i64 0, .bool false, .string (⟨#[]⟩ : ByteArray), .slice none 0 0]) ?_ 0 _ rfl; (with_reducible repeat (first | refine blk_drewN ?_ _  | refine blk_drew ?_  | refine blk_alloc ?_ _)); refine blk_far ?_ NB623_649.out _; (with_reducible repeat (first | refine blk_drewN ?_ _  | refine blk_drew ?_  | refine blk_alloc ?_ _)); refine blk_far ?_ NB623_649.out _; (with_reducible repeat (first | refine blk_drewN ?_ _  | refine blk_drew ?_  | refine blk_alloc ?_ _)); refine blk_far ?_ NB623_649.out _; (with_reducible repeat (first | refine blk_drewN ?_ _  | refine blk_drew ?_  | refine blk_alloc ?_ _)); refine blk_far ?_ NB623_649.out _; (with_reducible repeat (first | refine blk_drewN ?_ _  | refine blk_drew ?_  | refine blk_alloc ?_ _)); refine blk_far ?_ NB623_649.out _; (with_reducible repeat (first | refine blk_drewN ?_ _  | refine blk_drew ?_  | refine blk_alloc ?_ _)); refine blk_far ?_ NB623_649.out _; (with_reducible repeat (first | refine blk_drewN ?_ _  | refine blk_drew ?_  | refine blk_alloc ?_ _)); exact BK623.out) Tryz.underlying43 rfl (by kernel_rfl)) rfl ?_
           exact ⟨_, rfl, Kd.V_nil _ _ _ _ _, by (repeat (with_reducible first | exact HB.out | refine below_set ?_ GE623.out | refine below_set ?_ GE649.out))⟩
       · replace c12 := Bool.eq_false_iff.mpr c12
         subst c12
         have H1 : (some ((⟨#[]⟩ : ByteArray), (⟨#[]⟩ : ByteArray), 0, false, (⟨#[]⟩ : ByteArray), ([] : List ByteArray), 0, 7)) = some (r1, r2, r3, r4, r5, r6, r7, r8) := by rw [if_neg (show ¬ (false = true) by decide)] at H; exact H
         clear H
         have H := H1
         clear H1
         simp only [Option.some.injEq, Prod.mk.injEq] at H
         obtain ⟨rfl, rfl, rfl, rfl, rfl, rfl, rfl, rfl⟩ := H
         obtain ⟨hcz41_0, hcz41_1, hcz41_2, hcz41_3, hcz41_4, hcz41_5, hfz41_0, hfz41_1, hfz41_2, hfz41_3, hfz41_4, hfz41_5⟩ := cz6_ BK623.out
         go_wp2
         refine bodyPost_ret (results_ctt rfl _ _ gb623 43 #[.string (⟨#[]⟩ : ByteArray), .string (⟨#[]⟩ : ByteArray), .int .i64 0, .bool false, .string (⟨#[]⟩ : ByteArray), .slice none 0 0] (0, 0) _ rfl (put6_ BK623.out _ _ _ _ _ _) Tryz.underlying43 rfl (by kernel_rfl)) rfl ?_
         exact ⟨_, rfl, Kd.V_nil _ _ _ _ _, by (repeat (with_reducible first | exact HB.out | refine below_set ?_ GE623.out))⟩
     · rw [if_neg c11] at H
       have c11b0 : (a1.toList == ([] : List UInt8)) = false := beq_eq_false_iff_ne.mpr c11
       have c11b1 : (a1.toList != ([] : List UInt8)) = true := bne_iff_ne.mpr c11
       replace H := Option.bind_eq_some_iff.mp H
       obtain ⟨⟨t630, t631, t632, t633, t634, t635, t638, t639⟩, A420, H⟩ := H
       replace H : (some (t630, t631, t632, t633, t634, t635, t638, t639)) = some (r1, r2, r3, r4, r5, r6, r7, r8) := H
       have A42 := Aside0.mk A420
       clear A420
       simp only [Option.some.injEq, Prod.mk.injEq] at H
       obtain ⟨rfl, rfl, rfl, rfl, rfl, rfl, rfl, rfl⟩ := H
       go_wp2_with (first | ((with_reducible refine gate_callee (f := 71) rfl ?_); refine goesL_ (some 43) rfl rfl Tryz.func71 (by kernel_rfl) rfl #[.slice A0 l0.length c0, .string a1, .string t624, .bool t625, .bool t628] rfl (by ((try simp only [List.map_toArray, List.map_cons, List.map_nil]); (rfl))) ?_; (with_reducible refine (wicketref11_byHeader.calls kj5 (fun k_ => ((P0_ k_ ∨ w.heap.size ≤ k_) ∧ k_ ≠ gb623)) _ _ l0 a1 t624 t625 t628 t630 t631 t632 t633 t634 t635 t638 t639 _ ?side1 A42.out).mono ?_); (case side1 => exact HO_0.out); rintro e w43 ⟨v636, rfl, ho0, hb⟩; refine ⟨_, rfl, ?_⟩; replace HO_0 := Aside0.mk (Kd.V_below HO_0.out hb); have HO637 := Aside0.mk (Kd.V_lower (Kd.V_mono (ok' := fun k_ => (P0_ k_ ∨ w.heap.size ≤ k_) ∧ k_ ≠ gb623) ho0 (fun k_ hk_ => ⟨Or.elim hk_ (fun hs_ => hs_.1) (fun hn_ => (.inr (Nat.le_trans (below_size HB.out) hn_))), Or.elim hk_ (fun hs_ => hs_.2) (fun hn_ => (Kd.freshB (g := gb623) (o := .cells #[.string (⟨#[]⟩ : ByteArray), .string (⟨#[]⟩ : ByteArray), .int .i64 0, .bool false, .string (⟨#[]⟩ : ByteArray), .slice none 0 0] 43 (0, 0)) BK623.out k_ hn_))⟩)) (below_size HB.out)); replace BK623 := Aside0.mk (blk_below BK623.out hb); replace HB := Aside0.mk (below_step HB.out hb); clear hb ho0; obtain ⟨hcz44_0, hcz44_1, hcz44_2, hcz44_3, hcz44_4, hcz44_5, hfz44_0, hfz44_1, hfz44_2, hfz44_3, hfz44_4, hfz44_5⟩ := cz6_ BK623.out; obtain ⟨Ao45, co45, eo45⟩ := Kd.V_slice HO637.out; subst eo45))
       refine bodyPost_ret (results_ctt rfl _ _ gb623 43 #[.string t630, .string t631, .int .i64 t632, .bool t633, .string t634, .slice Ao45 t635.length co45] (0, 0) _ rfl (put6_ BK623.out _ _ _ _ _ _) Tryz.underlying43 rfl (by kernel_rfl)) rfl ?_
       exact ⟨_, rfl, by (with_reducible repeat (first | apply Kd.V_alloc  | apply Kd.V_drewN  | apply Kd.V_drew)); exact Kd.V_mono (V_far6 (Kd.V_mono HO637.out (fun k_ hk => (⟨hk, hk.2⟩ : _ ∧ k_ ≠ gb623))) (fun _ hk => hk.2)) (fun _ hk => hk.1.1), by (repeat (with_reducible first | exact HB.out | refine below_set ?_ GE623.out))⟩
end Go.Proofs.YtmimipgmhgalaaaGreatDoor.PAll
end
section
namespace Go.Proofs.YtmimipgmhgalaaaGreatDoor.PAll
open Go.RowKit Go.Proofs.YtmimipgmhgalaaaGreatDoorW.PrintWords Go.Proofs.YtmimipgmhgalaaaGreatDoorW.PrintLast Go.Proofs.YtmimipgmhgalaaaGreatDoorW.PrintMore
set_option linter.unusedVariables false
set_option linter.unusedSimpArgs false
theorem s_single {W : World} {base : Nat} {x : S40} {v5 : Value} (hX : Kd.R Kd.string 9 W base (fun _ => True) v5 x.f5) (hb : base ≤ W.heap.size) :
    Kd.S k40 40 (W.alloc (.cells #[.string x.f0, .string x.f1, .int .i64 x.f2, .bool x.f3, .string x.f4, v5] 40)) base (fun _ => True) (.slice (some ⟨W.heap.size, 0, none⟩) 1 1) [x] := by
  have h2 := World.ownsRow_lit (base := base) (e := 40) (size := 6) W #[.string x.f0, .string x.f1, .int .i64 x.f2, .bool x.f3, .string x.f4, v5] 1 hb (by decide) rfl
  refine ⟨fun _ => 0, fun k hk => trivial, _, h2, rfl, fun j p hj => ?_⟩
  rcases j with _ | j
  · obtain rfl : (x, 0) = p := Option.some.inj hj
    refine k40_mkM _ base _ x (Kd.R_mono (Kd.R_alloc (Kd.R_bound hX) _) ?_)
    intro k hk
    refine ⟨⟨trivial, fun he => ?_⟩, rfl⟩
    have h3 : k = W.heap.size := by simpa [Value.ownBlock] using he
    have := hk.2.2.1
    omega
  · cases j <;> cases hj
theorem r_empty {W : World} {base : Nat} (hb : base ≤ W.heap.size) : Kd.R k68 68 (W.alloc (.cells #[] 68)) base (fun _ => True) (.slice (some ⟨W.heap.size, 0, none⟩) 0 0) ([] : List S68) :=
  ⟨fun _ _ => trivial, _, World.ownsRow_lit (base := base) (e := 68) (size := 2) W #[] 0 hb (by decide) rfl, Reps.none _ _⟩
def AuthAt (w : World) (c : List S40) (a1 : ByteArray) (l2 : List S68) (x : S40) (n er : Int) : Prop :=
  ∀ (V : World) (A B : Option Addr) (ca cb : Nat), Below w.heap.size w V → Kd.C k40 V A c.length c → c.length ≤ ca → Kd.C k68 V B l2.length l2 → l2.length ≤ cb →
    Calls Tryz.prog 34 #[.slice A c.length ca, .string a1, .slice B l2.length cb] V fun e' w' => ∃ v5 : Value, e' = .returned (.tuple #[.agg #[.string x.f0, .string x.f1, .int .i64 x.f2, .bool x.f3, .string x.f4, v5], .int .i64 n, .int .i64 er]) ∧ Kd.R Kd.string 9 w' V.heap.size (fun _ => True) v5 x.f5 ∧ Below V.heap.size V w'
set_option maxRecDepth 100000 in
set_option maxHeartbeats 1000000 in
theorem shows_walk (k : Nat) (A0 : Option Addr) (c0 : Nat) (l0 : List S40) (a1 : ByteArray) (A2 : Option Addr) (c2 : Nat) (l2 : List S68) (w : World) (hr0 : Kd.C k40 w A0 l0.length l0) (hc0 : l0.length ≤ c0) (hr2 : Kd.C k68 w A2 l2.length l2) (hc2 : l2.length ≤ c2)
    (c : List S40) (h1 : wicketlaw11_copied.f k l0 = some c) (x0 x1 : ByteArray) (x2 : Int) (x3 : Bool) (x4 : ByteArray) (x5 : List ByteArray) (n er : Int) (hA : AuthAt w c a1 l2 ⟨x0, x1, x2, x3, x4, x5⟩ n er)
    (m : List S43) (h2 : wicketlaw11_all.f k l0 = some m) (fp : List S121) (h3 : wicketlaw11_form.f k l2 = some fp) (h4 : wicketref11_Authenticate.f k m a1 fp = some (x0, x1, x2, x3, x4, x5, n, er))
    (h5 : wicketlaw11_same.f k x0 x1 x2 x3 x4 x5 x0 x1 x2 x3 x4 x5 = some true) (h6 : wicketlaw11_list.f k c m = some true) (hlen : x5.length ≤ 4000000000000) (hl2 : l2.length * 32 ≤ 140737488351232) :
    Calls Tryz.prog 10 #[.slice A0 l0.length c0, .string a1, .slice A2 l2.length c2] w fun e w' => e = .returned (.bool true) ∧ Below w.heap.size w w' := by
  have K1 := Lib.hid h1
  have KA := Lib.hid hA
  have K2 := Lib.hid h2
  have K3 := Lib.hid h3
  have K4 := Lib.hid h4
  have K5 := Lib.hid h5
  have K6 := Lib.hid h6
  have KL := Lib.hid hlen
  have KP := Lib.hid hl2
  have HR := Lib.hid hr0
  have HC := Lib.hid hc0
  have HP := Lib.hid hr2
  have HQ := Lib.hid hc2
  have HV := Lib.hid (fun V : World => wicketlaw11_live.calls true V rfl)
  clear h1 hA h2 h3 h4 h5 h6 hlen hl2 hr0 hc0 hr2 hc2
  go_enter Tryz.func10, Tryz.ntmps10
  go_wp2_with (fail)
  refine (wicketlaw11_copied.calls k _ _ l0 c _ (by first | exact HR.out | exact Kd.C_alloc HR.out _ | exact Kd.C_drewN HR.out _) HC.out K1.out).mono ?_
  rintro e w1 ⟨vc, rfl, hS1, hb1⟩
  obtain ⟨Ac, cc, rfl⟩ := Kd.S_slice hS1
  have HS1 := Lib.hid hS1
  have HB1 := Lib.hid hb1
  have HR1 := Lib.hid (Kd.C_below HR.out hb1)
  have HP1 := Lib.hid (Kd.C_below HP.out hb1)
  clear hS1 hb1
  go_wp2_with ((with_reducible refine gate_builtin (b := .append) (xs := #[.tmp 18, .tmp 19]) rfl ?_); at_builtin; refine Kd.R_append_rows k68 (w0 := w1) w1.heap.size rfl (.tmp 18) (.tmp 19) 60 68 (.agg #[(.string ⟨#[]⟩), (.string ⟨#[]⟩)]) 32 rfl Tryz.underlying60 info68 rfl (by decide) (by omega) (.slice (some ⟨w1.heap.size, 0, none⟩) 0 0) [] l2 A2 l2.length c2 (fun _ => True) (fun _ => False) rfl rfl (r_empty (Nat.le_refl _)) (Kd.C_alloc HP1.out _) (fun _ _ h => h) (fun _ h => h.elim) (fun _ _ => trivial) (below_alloc (Below.refl _ _) _) (by simp) (by have := KP.out; simp; omega) ?_; intro vp w2 ho hb hg hat; clear hg hat; rw [List.nil_append] at ho; obtain ⟨Ap, cp, rfl⟩ := Kd.R_slice ho; have HO2 := Lib.hid ho; have HD2 := Lib.hid hb; have HS2 := Lib.hid (Kd.S_below HS1.out hb); have HB2 := Lib.hid (below_step HB1.out hb); have HR2 := Lib.hid (Kd.C_below HR1.out hb); have HP2 := Lib.hid (Kd.C_below HP1.out hb); clear HS1 HB1 HR1 HP1 ho hb)
  refine (KA.out _ Ac Ap cc cp HB2.out (Kd.S_reads' HS2.out).2.2 (Kd.S_reads' HS2.out).2.1 (Kd.R_reads' HO2.out).2.2 (Kd.R_reads' HO2.out).2.1).mono ?_
  rintro e w3 ⟨v5, rfl, hX, hb3⟩
  obtain ⟨Ax, cx, rfl⟩ := Kd.R_slice hX
  have HX3 := Lib.hid hX
  have HD3 := Lib.hid hb3
  have HB3 := Lib.hid (below_step HB2.out hb3)
  have HR3 := Lib.hid (Kd.C_below HR2.out hb3)
  have HP3 := Lib.hid (Kd.C_below HP2.out hb3)
  clear hX hb3
  go_wp2_with (fail)
  refine (wicketlaw11_all.calls k _ _ l0 m _ (Kd.C_alloc HR3.out _) HC.out K2.out).mono ?_
  rintro e w4 ⟨vm, rfl, hM, hb4⟩
  obtain ⟨Am, cm, rfl⟩ := Kd.S_slice hM
  have BX4 := Lib.hid (blk_below (blk_new w3 (Obj.cells #[.string x0, .string x1, .int .i64 x2, .bool x3, .string x4, .slice Ax x5.length cx] 40)) hb4)
  have HB4 := Lib.hid (below_step (below_alloc HB3.out _) hb4)
  have HD4 := Lib.hid (below_step (below_alloc HD3.out _) hb4)
  have HX4 := Lib.hid (Kd.R_below (Kd.R_alloc HX3.out _) hb4)
  have HP4 := Lib.hid (Kd.C_below (Kd.C_alloc HP3.out _) hb4)
  have HM4 := Lib.hid (Kd.S_mono hM (ok' := fun _ => True) (fun _ _ => trivial))
  obtain ⟨p, hp⟩ : ∃ p, p = w3.heap.size := ⟨_, rfl⟩
  rw [← hp] at BX4 ⊢
  clear HB3 HD3 HX3 HR3 HP3 hb4 hM hp
  go_wp2_with (fail)
  refine (wicketlaw11_form.calls k _ _ l2 fp _ HP4.out HQ.out K3.out).mono ?_
  rintro e w5 ⟨vf, rfl, hF, hb5⟩
  obtain ⟨Af, cf, rfl⟩ := Kd.R_slice hF
  have BX5 := Lib.hid (blk_below BX4.out hb5)
  have HB5 := Lib.hid (below_step HB4.out hb5)
  have HD5 := Lib.hid (below_step HD4.out hb5)
  have HX5 := Lib.hid (Kd.R_below HX4.out hb5)
  have HF5 := Lib.hid (Kd.R_reads' hF).2
  have HV5 := Lib.hid (Kd.S_V (base' := w5.heap.size) (Kd.S_below HM4.out hb5))
  clear BX4 HB4 HD4 HX4 HP4 HM4 hF hb5
  go_wp2_with (fail)
  refine (wicketref11_Authenticate.calls k _ _ _ m a1 _ _ fp x0 x1 x2 x3 x4 x5 n er _ HV5.out HF5.out.2 HF5.out.1 K4.out).mono ?_
  rintro e w6 ⟨vy, rfl, hY, hb6⟩
  obtain ⟨Ay, cy, rfl⟩ := Kd.V_slice hY
  have BX6 := Lib.hid (blk_below BX5.out hb6)
  have HB6 := Lib.hid (below_step HB5.out hb6)
  have HD6 := Lib.hid (below_step HD5.out hb6)
  have HX6 := Lib.hid (Kd.R_below HX5.out hb6)
  have HY6 := Lib.hid hY
  clear BX5 HB5 HD5 HX5 HF5 HV5 hY hb6
  go_upto_region 5 with (fail)
  have BX := Lib.hid (blk_alloc BX6.out (Obj.cells #[.string x0, .string x1, .int .i64 x2, .bool x3, .string x4, .slice Ay x5.length cy] 43))
  have BY := Lib.hid (blk_new w6 (Obj.cells #[.string x0, .string x1, .int .i64 x2, .bool x3, .string x4, .slice Ay x5.length cy] 43))
  have HB7 := Lib.hid (below_alloc HB6.out (Obj.cells #[.string x0, .string x1, .int .i64 x2, .bool x3, .string x4, .slice Ay x5.length cy] 43))
  have HD7 := Lib.hid (below_alloc HD6.out (Obj.cells #[.string x0, .string x1, .int .i64 x2, .bool x3, .string x4, .slice Ay x5.length cy] 43))
  have HX7 := Lib.hid (Kd.R_alloc HX6.out (Obj.cells #[.string x0, .string x1, .int .i64 x2, .bool x3, .string x4, .slice Ay x5.length cy] 43))
  have HY7 := Lib.hid (Kd.V_alloc HY6.out (Obj.cells #[.string x0, .string x1, .int .i64 x2, .bool x3, .string x4, .slice Ay x5.length cy] 43))
  obtain ⟨q, hq⟩ : ∃ q, q = w6.heap.size := ⟨_, rfl⟩
  rw [← hq] at BY ⊢
  generalize hW : w6.alloc (Obj.cells #[.string x0, .string x1, .int .i64 x2, .bool x3, .string x4, .slice Ay x5.length cy] 43) = w7
  rw [hW] at BX BY HB7 HD7 HX7 HY7
  clear hW hq BX6 HB6 HD6 HX6 HY6
  have CX7 := Lib.hid (Kd.R_reads' HX7.out).2
  have CY7 := Lib.hid (Kd.V_reads' HY7.out).2
  have h50 := blk_cell BX.out 0
  have h51 := blk_cell BX.out 1
  have h52 := blk_cell BX.out 2
  have h53 := blk_cell BX.out 3
  have h54 := blk_cell BX.out 4
  have h55 := blk_cell BX.out 5
  have hf0 := blk_frozen BX.out 0
  have hf1 := blk_frozen BX.out 1
  have hf2 := blk_frozen BX.out 2
  have hf3 := blk_frozen BX.out 3
  have hf4 := blk_frozen BX.out 4
  have hf5 := blk_frozen BX.out 5
  have g50 := blk_cell BY.out 0
  have g51 := blk_cell BY.out 1
  have g52 := blk_cell BY.out 2
  have g53 := blk_cell BY.out 3
  have g54 := blk_cell BY.out 4
  have g55 := blk_cell BY.out 5
  have gf0 := blk_frozen BY.out 0
  have gf1 := blk_frozen BY.out 1
  have gf2 := blk_frozen BY.out 2
  have gf3 := blk_frozen BY.out 3
  have gf4 := blk_frozen BY.out 4
  have gf5 := blk_frozen BY.out 5
  go_wp2_with (go_at_call 19; (with_reducible refine (live_num er _).mono ?_); rintro _ w8 ⟨rfl, ⟨nd, rfl⟩⟩)
  refine (wicketlaw11_same.calls k x0 x1 x2 x3 x4 Ax cx x5 x0 x1 x2 x3 x4 Ay cy x5 true _ (Kd.C_drewN CX7.out.2 _) CX7.out.1 (Kd.C_drewN CY7.out.2 _) CY7.out.1 K5.out).mono ?_
  rintro e w9 ⟨rfl, hb9⟩
  have BX9 := Lib.hid (blk_below (blk_drewN BX.out _) hb9)
  have HB9 := Lib.hid (below_step (pw_below_drewN HB7.out _) hb9)
  have HD9 := Lib.hid (below_step (pw_below_drewN HD7.out _) hb9)
  have HX9 := Lib.hid (Kd.R_below (Kd.R_drewN HX7.out _) hb9)
  clear h50 h51 h52 h53 h54 h55 hf0 hf1 hf2 hf3 hf4 hf5 g50 g51 g52 g53 g54 g55 gf0 gf1 gf2 gf3 gf4 gf5 BX BY HB7 HD7 HX7 HY7 CX7 CY7 hb9
  have h50 := blk_cell BX9.out 0
  have h51 := blk_cell BX9.out 1
  have h52 := blk_cell BX9.out 2
  have h53 := blk_cell BX9.out 3
  have h54 := blk_cell BX9.out 4
  have h55 := blk_cell BX9.out 5
  have hf0 := blk_frozen BX9.out 0
  have hf1 := blk_frozen BX9.out 1
  have hf2 := blk_frozen BX9.out 2
  have hf3 := blk_frozen BX9.out 3
  have hf4 := blk_frozen BX9.out 4
  have hf5 := blk_frozen BX9.out 5
  go_wp2_with (fail)
  refine (wicketlaw11_spoil.calls (fun _ => True) _ [⟨x0, x1, x2, x3, x4, x5⟩] w2 _ (by intro z hz; rw [List.mem_singleton.1 hz]; exact KL.out) (HD9.out.alloc HD9.out.size _) (s_single (x := ⟨x0, x1, x2, x3, x4, x5⟩) HX9.out HD9.out.size)).mono ?_
  rintro e w10 ⟨rfl, hb10, -⟩
  have HS10 := Lib.hid (Kd.S_below HS2.out hb10)
  have HO10 := Lib.hid (Kd.R_reads' (Kd.R_below HO2.out hb10)).2.2
  have HR10 := Lib.hid (Kd.C_below HR2.out hb10)
  have HP10 := Lib.hid (Kd.C_below HP2.out hb10)
  have HB10 := Lib.hid (below_step HB2.out hb10)
  clear h50 h51 h52 h53 h54 h55 hf0 hf1 hf2 hf3 hf4 hf5 BX9 HB9 HD9 HX9 hb10 HS2 HO2 HR2 HP2 HB2 HD2
  obtain ⟨N, hN⟩ : ∃ N, l2.length = N := ⟨_, rfl⟩
  have hN2 : N ≤ 4398046511104 := by have := KP.out; omega
  rw [hN] at HO10 HP10 ⊢
  have HN := Lib.hid hN
  clear hN
  go_wp2_with (fail)
  go_loopw [15] (fun v15 wr => ∃ i : Nat, i ≤ N ∧ v15 = .int .i64 (i : Int) ∧ Below w10.heap.size w10 wr) (fun v15 _ => N - (intOf v15).toNat)
  case atStart => exact ⟨0, Nat.zero_le _, rfl, Below.refl _ _⟩
  case round =>
    obtain ⟨i, hi, rfl, hB⟩ := hrel
    by_cases hlt : i < N
    · obtain ⟨ad, hA, hx0, hx1⟩ := at_T68 (Kd.C_below HO10.out hB) (i : Int) (by omega) (by omega)
      obtain ⟨ae, hE, hy0, hy1⟩ := at_T68 (Kd.C_below HP10.out hB) (i : Int) (by omega) (by omega)
      subst hA hE
      simp only [Int.toNat_natCast] at hx0 hx1 hy0 hy1
      generalize rd_T68 l2 (i : Int) = z at *
      have HBi := Lib.hid hB
      clear hB
      go_wp2
      go_quiet (fail)
      go_wp2_with (fail)
      go_roundw
      case rel => exact ⟨i + 1, by omega, by go_num, by repeat (first | exact HBi.out | apply pw_below_drewN | apply below_drew1)⟩
      case measure => simp [intOf]; omega
    · have hge : decide (i < N) = false := decide_eq_false hlt
      have HBi := Lib.hid hB
      clear hB
      go_wp2_with (fail)
      refine (wicketlaw11_all.calls k _ _ l0 m _ (Kd.C_below HR10.out HBi.out) HC.out K2.out).mono ?_
      rintro e w11 ⟨vm2, rfl, hM, hb11⟩
      obtain ⟨An, cn, rfl⟩ := Kd.S_slice hM
      have HC11 := Lib.hid (Kd.S_reads' (Kd.S_below (Kd.S_below HS10.out HBi.out) hb11)).2
      have HM11 := Lib.hid (Kd.S_reads' hM).2
      have HB11 := Lib.hid (below_step (below_step HB10.out HBi.out) hb11)
      clear HS10 HB10 HR10 HBi hM hb11
      go_wp2_with (fail)
      refine (wicketlaw11_list.calls k _ _ c _ _ m true _ HC11.out.2 HC11.out.1 HM11.out.2 HM11.out.1 K6.out).mono ?_
      rintro e w12 ⟨rfl, hb12⟩
      have HB12 := Lib.hid (below_step HB11.out hb12)
      clear hb12
      go_wp2_with (fail)
      refine (HV.out _).mono ?_
      rintro e w13 ⟨rfl, hb13⟩
      have HB13 := Lib.hid (below_step HB12.out hb13)
      clear hb13
      go_wp2_with (fail)
      go_ret
      exact ⟨rfl, by repeat (first | (with_reducible first | exact HB13.out | apply below_alloc | apply pw_below_drewN | apply below_drew1) | exact HB13.out)⟩
end Go.Proofs.YtmimipgmhgalaaaGreatDoor.PAll
end
section
namespace Go.Proofs
open Go.Shelf
def Tryz.lays119_ren : Go.Shelf.Ren := ⟨fun | 119 => 169 | n => n, fun | 21 => 21 | 4 => 4 | n => n, fun | n => n⟩
theorem Tryz.lays119 : Go.Proofs.Lays.n119 Tryz.prog Tryz.lays119_ren := {
  mixed := by kernel_rfl
  f119 := Tryz.func169.trans (congrArg some (by kernel_rfl))
  t4 := Tryz.underlying4
  a4 := Tryz.isAgg4
  z4 := Tryz.sizeOf4
  v4 := Tryz.zeroValue4
  t21 := Tryz.underlying21
  a21 := Tryz.isAgg21
  z21 := Tryz.sizeOf21
  v21 := Tryz.zeroValue21 }
theorem Tryz.utf8_ValidRune (r : Int) (w : World) :
    Calls Tryz.prog 169 #[.int .i32 r] w fun e w' => e = .returned (.bool (Lib.validRune r)) ∧ w' = w := Any.utf8_ValidRune Tryz.lays119 r w
def Tryz.lays137_ren : Go.Shelf.Ren := ⟨fun | 137 => 168 | 217 => 158 | 266 => 170 | n => n, fun | 9 => 9 | 5 => 5 | 3 => 3 | n => n, fun | n => n⟩
theorem Tryz.lays137 : Go.Proofs.Lays.n137 Tryz.prog Tryz.lays137_ren := {
  mixed := by kernel_rfl
  f137 := Tryz.func168.trans (congrArg some (by kernel_rfl))
  f217 := Tryz.func158.trans (congrArg some (by kernel_rfl))
  f266 := Tryz.func170.trans (congrArg some (by kernel_rfl))
  t3 := Tryz.underlying3
  a3 := Tryz.isAgg3
  z3 := Tryz.sizeOf3
  v3 := Tryz.zeroValue3
  t5 := Tryz.underlying5
  a5 := Tryz.isAgg5
  z5 := Tryz.sizeOf5
  v5 := Tryz.zeroValue5
  t9 := Tryz.underlying9
  a9 := Tryz.isAgg9
  z9 := Tryz.sizeOf9
  v9 := Tryz.zeroValue9 }
open Go.RowKit in
theorem Tryz.strings_IndexByte (s : ByteArray) (c : Int) (w : World) :
    Calls Tryz.prog 168 #[.string s, .int .u8 c] w fun e w' => e = .returned (.int .i64 (Lib.indexByte s.data.toList c.toNat.toUInt8)) ∧ w' = w := Any.strings_IndexByte Tryz.lays137 s c w
end Go.Proofs
end
section
namespace Go.Proofs.YtmimipgmhgalaaaGreatDoor.PAll
open Go.RowKit Go.Proofs.YtmimipgmhgalaaaGreatDoorW.PrintWords
set_option linter.unusedVariables false
set_option linter.unusedSimpArgs false
theorem any_quiet_left {P : Program} {f : FuncId} {args : Array Value} {w : World} {n : Nat} {v : Value}
    (h : Calls P f args (w.drewN n) fun e w' => e = .returned v ∧ w.drewN n = w') : Calls P f args (w.drewN n) fun e w'' => e = .returned v ∧ ∃ m, w'' = w.drewN m :=
  h.mono fun _ _ ⟨he, hm⟩ => ⟨he, n, hm.symm⟩
theorem any_quiet_add {P : Program} {f : FuncId} {args : Array Value} {w : World} {a n : Nat} {v : Value}
    (h : Calls P f args (w.drewN (a + n)) fun e w' => e = .returned v ∧ w.drewN (a + n) = w') : Calls P f args (w.drewN (a + n)) fun e w'' => e = .returned v ∧ ∃ m, w'' = w.drewN (a + m) :=
  h.mono fun _ _ ⟨he, hm⟩ => ⟨he, n, hm.symm⟩
theorem absentB (l : List UInt8) (c : UInt8) (h : ∀ b ∈ l, b ≠ c) : Lib.indexByte l c = -1 := by
  induction l with
  | nil => rfl
  | cons b l ih =>
    unfold Lib.indexByte
    have hb : (b == c) = false := by
      rw [Bool.eq_false_iff]
      intro e
      exact h b (by simp) (eq_of_beq e)
    rw [ih fun x hx => h x (by simp [hx]), hb]
    rfl
abbrev DU : ByteArray := ⟨#[45, 95]⟩
def isDU (x : Nat) : Bool := x == 45 || x == 95
theorem DU_index : ∀ x, x < 128 → decide (0 ≤ Lib.indexByte DU.data.toList x.toUInt8) = isDU x := by decide +kernel
theorem DU_small : ∀ b ∈ DU.data.toList, b.toNat < 128 := by decide +kernel
theorem DU_at : ∀ pos, pos < 2 → (Utf8.decode DU pos).2 = 1 ∧ (Utf8.decode DU pos).1 < 128 := by decide +kernel
def DuOk (x : Nat) (w : World) (e : Ending) (w' : World) : Prop := ∃ n : Int, e = .returned (.int .i64 n) ∧ decide (0 ≤ n) = isDU x ∧ Below w.heap.size w w'
set_option maxRecDepth 100000 in
set_option maxHeartbeats 1000000 in
theorem du_low (x : Nat) (w : World) (hx : x < 128) : Calls Tryz.prog 154 #[.string DU, .int .i32 (x : Int)] w (DuOk x w) := by
  have hcall : ∀ W : World, Calls Tryz.prog 168 #[.string DU, .int .u8 (x : Int)] W fun e w' => e = .returned (.int .i64 (Lib.indexByte DU.data.toList x.toUInt8)) ∧ W = w' := fun W =>
    (Tryz.strings_IndexByte DU (x : Int) W).mono fun e w' ⟨h, hw⟩ => ⟨by rw [h, Int.toNat_natCast], hw.symm⟩
  have HX := Lib.hid (DU_index x hx)
  have i0 : (0 : Int) ≤ (x : Int) := by omega
  have i1 : (x : Int) < 128 := by omega
  obtain ⟨L, hL⟩ : ∃ L, L = DU := ⟨_, rfl⟩
  rw [← hL] at hcall ⊢
  rw [← hL] at HX
  clear hL hx
  go_enter Tryz.func154, Tryz.ntmps154
  go_wp2_with (go_at_call 168; refine (hcall _).mono ?_; rintro e w1 ⟨rfl, rfl⟩)
  go_ret
  exact ⟨_, rfl, HX.out, Below.refl _ _⟩
set_option maxRecDepth 100000 in
set_option maxHeartbeats 1000000 in
theorem du_err (w : World) : Calls Tryz.prog 154 #[.string DU, .int .i32 65533] w fun e w' => e = .returned (.int .i64 (-1)) ∧ Below w.heap.size w w' := by
  have HA := Lib.hid DU_at
  have HZ := Lib.hid (show DU.size = 2 from rfl)
  obtain ⟨L, hL⟩ : ∃ L, L = DU := ⟨_, rfl⟩
  rw [← hL] at HA HZ ⊢
  clear hL
  go_enter Tryz.func154, Tryz.ntmps154
  go_wp2
  go_loopg [5, 6] 2 (fun gf v5 v6 wx => ∃ pos : Nat, wx.heap[w.heap.size]? = some (.stringIter L pos) ∧ Below w.heap.size w wx ∧ pos + gf = 2)
  case atStart => exact ⟨0, World.iter_heap w L 0, (Below.refl _ w).alloc (Nat.le_refl _) _, by omega⟩
  case round =>
    obtain ⟨pos, hit, hbw, hfu⟩ := hrel
    by_cases hps : pos < L.size
    · have hp := HA.out pos (by rw [HZ.out] at hps; omega)
      obtain ⟨g', rfl⟩ : ∃ g', gk = g' + 1 := ⟨gk - 1, by have := HZ.out; omega⟩
      have hnx : ∀ ty, (Instr.next (.pointer (some ⟨w.heap.size, 0, none⟩)) true ty).run Tryz.prog wr = _ := fun ty => Lib.run_next_any_at wr w.heap.size L pos ty hit hps
      obtain ⟨R, hR⟩ : ∃ R, (Utf8.decode L pos).1 = R := ⟨_, rfl⟩
      rw [hp.1, hR] at hnx
      rw [hR] at hp
      have hR1 : ((R : Int) == 65533) = false := by
        rw [Bool.eq_false_iff]
        intro h
        have := eq_of_beq h
        omega
      have hit2 := Lib.iterAt_heap wr w.heap.size L pos (pos + 1) hit
      have hbw2 := Lib.below_iterAt hbw (k := w.heap.size) (Nat.le_refl _) L (pos + 1)
      obtain ⟨W, hWd⟩ : ∃ W, wr.iterAt w.heap.size L (pos + 1) = W := ⟨_, rfl⟩
      rw [hWd] at hnx hit2 hbw2
      clear hp hR hit hbw hWd
      go_wp2
      go_roundg g'
      case measure => omega
      case rel => exact ⟨pos + 1, hit2, hbw2, by omega⟩
    · have hnx : ∀ ty, (Instr.next (.pointer (some ⟨w.heap.size, 0, none⟩)) true ty).run Tryz.prog wr = _ := fun ty => Lib.run_next_end_at wr w.heap.size L pos ty hit hps
      go_wp2
      go_ret
      exact ⟨rfl, hbw⟩
set_option maxRecDepth 100000 in
set_option maxHeartbeats 1000000 in
theorem du_bad (x : Nat) (w : World) (h0 : 128 ≤ x) (h1 : x ≠ 65533) (h2 : x ≤ 1114111) (hv : Lib.validRune (x : Int) = false) : Calls Tryz.prog 154 #[.string DU, .int .i32 (x : Int)] w fun e w' => e = .returned (.int .i64 (-1)) ∧ Below w.heap.size w w' := by
  have hcall : ∀ W : World, Calls Tryz.prog 169 #[.int .i32 (x : Int)] W fun e w' => e = .returned (.bool false) ∧ W = w' := fun W =>
    (Tryz.utf8_ValidRune (x : Int) W).mono fun e w' ⟨h, hw⟩ => ⟨by rw [h, hv], hw.symm⟩
  have i0 : (0 : Int) ≤ (x : Int) := by omega
  have i1 : decide ((x : Int) < 128) = false := decide_eq_false (by omega)
  have i2 : ((x : Int) == 65533) = false := by
    rw [Bool.eq_false_iff]
    intro h
    have := eq_of_beq h
    omega
  obtain ⟨L, hL⟩ : ∃ L, L = DU := ⟨_, rfl⟩
  rw [← hL]
  clear hL hv h0 h1 h2
  go_enter Tryz.func154, Tryz.ntmps154
  go_wp2_with (go_at_call 169; refine (hcall _).mono ?_; rintro e w1 ⟨rfl, rfl⟩)
  go_ret
  exact ⟨rfl, Below.refl _ _⟩
set_option maxRecDepth 100000 in
set_option maxHeartbeats 2000000 in
theorem du_wide (x : Nat) (w : World) (h0 : 128 ≤ x) (h1 : x ≠ 65533) (h2 : x ≤ 1114111) (hv : Lib.validRune (x : Int) = true) : Calls Tryz.prog 154 #[.string DU, .int .i32 (x : Int)] w fun e w' => e = .returned (.int .i64 (-1)) ∧ Below w.heap.size w w' := by
  have hcall : ∀ W : World, Calls Tryz.prog 169 #[.int .i32 (x : Int)] W fun e w' => e = .returned (.bool true) ∧ W = w' := fun W =>
    (Tryz.utf8_ValidRune (x : Int) W).mono fun e w' ⟨h, hw⟩ => ⟨by rw [h, hv], hw.symm⟩
  have hE := Lib.hid (encode_facts (x : Int) (by rw [validRune_eq]; exact hv) (by omega))
  have HS := Lib.hid DU_small
  have HZ := Lib.hid (show DU.size = 2 from rfl)
  have i0 : (0 : Int) ≤ (x : Int) := by omega
  have i1 : decide ((x : Int) < 128) = false := decide_eq_false (by omega)
  have i2 : ((x : Int) == 65533) = false := by
    rw [Bool.eq_false_iff]
    intro h
    have := eq_of_beq h
    omega
  obtain ⟨L, hL⟩ : ∃ L, L = DU := ⟨_, rfl⟩
  rw [← hL] at HS HZ ⊢
  clear hL hv h0 h1 h2
  obtain ⟨E, hEd⟩ : ∃ E, E = Utf8.encode (x : Int) := ⟨_, rfl⟩
  have hcv : ∀ W : World, (convert 21 9 (.int .i32 (x : Int))).run Tryz.prog W = .ok (.string E) W := fun W => by
    rw [hEd]; exact run_convert_int_string W 21 9 .i32 _ (by rw [Tryz.underlying21]; rfl) Tryz.underlying9
  rw [← hEd] at hE
  have hE1 := hE.out.1
  have hE2 := hE.out.2.1
  clear hEd
  go_enter Tryz.func154, Tryz.ntmps154
  go_wp2_with (go_at_call 169; refine (hcall _).mono ?_; rintro e w1 ⟨rfl, rfl⟩)
  go_step3
  go_wp2
  obtain ⟨m, hm⟩ : ∃ m : Nat, E.size = m + 1 := ⟨E.size - 1, by omega⟩
  have hm1 : (E.size : Int) - 1 = (m : Int) := by omega
  have hlt : m < E.size := by omega
  rw [hm1]
  by_cases hmL : m < L.size
  · obtain ⟨b, hb⟩ : ∃ b, b = E[m]'hlt := ⟨_, rfl⟩
    have hb1 : 128 ≤ b.toNat := by
      have h := hE.out.2.2 (by omega)
      rw [hb]
      simpa [hm] using h
    obtain ⟨a, ha⟩ : ∃ a, a = L[m]'hmL := ⟨_, rfl⟩
    have ha1 : a.toNat < 128 := by rw [ha]; exact HS.out _ (by show L.data[m] ∈ _; simp)
    refine wp_loop_rounds 1 ?_
    rw [rounds_succ]
    have hmz : (m : Int) < (L.size : Int) := by omega
    go_wp2
    have hidx : ∀ W : World, (Instr.index 9 (.string L) (.int .i64 (m : Int))).run Tryz.prog W = .ok (.int .u8 (a.toNat : Int)) W := fun W => by
      rw [ha]; clear hm hm1; go_simp
    have hidy : ∀ W : World, (Instr.index 9 (.string E) (.int .i64 (m : Int))).run Tryz.prog W = .ok (.int .u8 (b.toNat : Int)) W := fun W => by
      rw [hb]; clear hm hm1; go_simp
    have hne : ((a.toNat : Int) != (b.toNat : Int)) = true := by
      rw [bne_iff_ne]
      omega
    have hcall2 : ∀ W : World, Calls Tryz.prog 168 #[.string (L.extract (m + 1) L.size), .int .u8 (b.toNat : Int)] W fun e w' => e = .returned (.int .i64 (-1)) ∧ W = w' := fun W =>
      (Tryz.strings_IndexByte _ (b.toNat : Int) W).mono fun e w' ⟨h, hw⟩ => ⟨by
        rw [h, absentB]
        intro c hc e
        have h1 := HS.out c (mem_extract hc)
        rw [e, Int.toNat_natCast] at h1
        simp at h1
        omega, hw.symm⟩
    have j0 : (0 : Int) ≤ (m : Int) := by omega
    have j1 : (m : Int) ≤ 3 := by omega
    have j2 : IntKind.i64.wrap ((m : Int) + 1) = (m : Int) + 1 := IntWalk.i64_in _ (by omega)
    have j3 : (0 : Int) ≤ (m : Int) + 1 := by omega
    have j4 : ((m : Int) + 1).toNat = m + 1 := by omega
    have j5 : (m : Int) + 1 ≤ (L.size : Int) := by omega
    have HC := Lib.hid hcall2
    clear ha hb hm hm1 hcall hcall2
    go_step3
    go_wp2
    go_quiet (fail)
    go_wp2
    go_quiet ((go_at_call 168; first | exact any_quiet_left (HC.out _) | exact any_quiet_add (HC.out _)))
    go_wp2
    rw [Exit.noGoto_ret]
    go_simp
    go_ret
    exact ⟨rfl, pw_below_drewN (Below.refl _ _) _⟩
  · refine wp_loop_rounds 1 ?_
    rw [rounds_succ]
    have hmz : decide ((m : Int) < (L.size : Int)) = false := decide_eq_false (by omega)
    go_wp2
    rw [Exit.noGoto_ret]
    go_simp
    go_ret
    exact ⟨rfl, Below.refl _ _⟩
theorem isDU_wide (x : Nat) (h : 128 ≤ x) : isDU x = false := by
  unfold isDU
  rw [Bool.or_eq_false_iff, beq_eq_false_iff_ne, beq_eq_false_iff_ne]
  omega
theorem du_any (x : Nat) (w : World) (hx : x ≤ 1114111) : Calls Tryz.prog 154 #[.string DU, .int .i32 (x : Int)] w (DuOk x w) := by
  by_cases h0 : x < 128
  · exact du_low x w h0
  · have hI := isDU_wide x (by omega)
    have key : Calls Tryz.prog 154 #[.string DU, .int .i32 (x : Int)] w fun e w' => e = .returned (.int .i64 (-1)) ∧ Below w.heap.size w w' := by
      by_cases h1 : x = 65533
      · subst h1; exact du_err w
      · cases hv : Lib.validRune (x : Int) with
        | true => exact du_wide x w (by omega) h1 hx hv
        | false => exact du_bad x w (by omega) h1 hx hv
    exact key.mono fun e w' ⟨he, hb⟩ => ⟨-1, he, by rw [hI]; rfl, hb⟩
theorem dec_facts (s : ByteArray) (pos : Nat) (h : pos < s.size) : ∃ R n, Utf8.decode s pos = (R, n) ∧ R ≤ 1114111 ∧ 1 ≤ n ∧ pos + n ≤ s.size ∧
    ((n = 1 ∧ (s.data.toList.getD pos 0).toNat = R ∧ R < 128) ∨ (128 ≤ R ∧ ∀ q, q < n → 128 ≤ (s.data.toList.getD (pos + q) 0).toNat)) := by
  have hl : s.data.toList.length = s.size := by rw [Array.length_toList]; rfl
  rw [Lib.decode_N, hl]
  have l0 := (s.data.toList.getD pos 0).toNat_lt
  generalize e0 : (s.data.toList.getD pos 0).toNat = b0 at *
  generalize e1 : (s.data.toList.getD (pos + 1) 0).toNat = b1 at *
  generalize e2 : (s.data.toList.getD (pos + 2) 0).toNat = b2 at *
  generalize e3 : (s.data.toList.getD (pos + 3) 0).toNat = b3 at *
  by_cases hb : b0 < 128
  · refine ⟨b0, 1, ?_, by omega, by omega, by omega, .inl ⟨rfl, rfl, hb⟩⟩
    unfold Lib.decodeN; rw [if_pos hb]
  · rcases Lib.decodeN_shape (s.size - pos) b0 b1 b2 b3 with ⟨h1, _⟩ | ⟨h1, h2, h3, h4, h5⟩ | ⟨h1, h2, h3, h4, h5, h6, h7⟩ | ⟨h1, h2, h3, h4, h5, h6, h7, h8⟩ | h1
    · omega
    · refine ⟨_, _, h5, by omega, by omega, by omega, .inr ⟨h4, fun q hq => ?_⟩⟩
      match q, hq with
      | 0, _ => rw [Nat.add_zero, e0]; omega
      | 1, _ => rw [e1]; omega
    · refine ⟨_, _, h7, by omega, by omega, by omega, .inr ⟨by omega, fun q hq => ?_⟩⟩
      match q, hq with
      | 0, _ => rw [Nat.add_zero, e0]; omega
      | 1, _ => rw [e1]; omega
      | 2, _ => rw [e2]; omega
    · refine ⟨_, _, h8, by omega, by omega, by omega, .inr ⟨by omega, fun q hq => ?_⟩⟩
      match q, hq with
      | 0, _ => rw [Nat.add_zero, e0]; omega
      | 1, _ => rw [e1]; omega
      | 2, _ => rw [e2]; omega
      | 3, _ => rw [e3]; omega
    · refine ⟨_, _, h1, by omega, by omega, by omega, .inr ⟨by omega, fun q hq => ?_⟩⟩
      match q, hq with
      | 0, _ => rw [Nat.add_zero, e0]; omega
def hasDU (l : List UInt8) : Bool := l.any fun c => isDU c.toNat
theorem contains_isDU : ∀ n : Fin 256, ([45, 95] : List UInt8).contains (UInt8.ofNat n.val) = isDU n.val := by decide +kernel
theorem contains_DU (c : UInt8) : ([45, 95] : List UInt8).contains c = isDU c.toNat := by
  have h := contains_isDU ⟨c.toNat, c.toNat_lt⟩
  rw [UInt8.ofNat_toNat] at h
  exact h
theorem containsAny_DU : ∀ (l : List UInt8), Lib.containsAny l [45, 95] = hasDU l
  | [] => rfl
  | c :: r => by
    have ih := containsAny_DU r
    have hge := Lib.indexAny_ge [45, 95] r
    unfold Lib.containsAny hasDU at *
    rw [List.any_cons, Lib.indexAny]
    rw [contains_DU]
    cases h : isDU c.toNat with
    | true => rfl
    | false =>
      rw [Bool.false_or, ← ih]
      simp only [Bool.false_eq_true, if_false]
      by_cases hm : Lib.indexAny r [45, 95] = -1
      · rw [hm]; rfl
      · rw [if_neg (fun e => hm (beq_iff_eq.1 e)), decide_eq_decide]; omega
set_option maxRecDepth 100000 in
set_option maxHeartbeats 2000000 in
theorem indexAny_short (s : ByteArray) (w : World) (h8 : s.size ≤ 8) : Calls Tryz.prog 130 #[.string s, .string DU] w fun e w' => ∃ n : Int, e = .returned (.int .i64 n) ∧ decide (0 ≤ n) = hasDU s.data.toList ∧ Below w.heap.size w w' := by
  have hsl : s.data.toList.length = s.size := by rw [Array.length_toList]; rfl
  have hdec := dec_facts s
  have HD := Lib.hid hdec
  have h8z : decide ((8 : Int) < (s.size : Int)) = false := decide_eq_false (by omega)
  clear hdec
  have HRU := Lib.hid du_any
  have hZ : DU.size = 2 := rfl
  have hE : DU.toList.isEmpty = false := by rw [Lib.toList_data]; rfl
  obtain ⟨L, hL⟩ : ∃ L, L = DU := ⟨_, rfl⟩
  rw [← hL] at HRU hZ hE ⊢
  clear hL
  obtain ⟨G, hG⟩ : ∃ G, hasDU s.data.toList = G := ⟨_, rfl⟩
  rw [hG]
  go_enter Tryz.func130, Tryz.ntmps130
  go_wp2_with (go_at_call 155; refine (Tryz.strings_shouldUseASCIISet _ _).mono ?_; rintro e w' ⟨rfl, hw⟩; rw [hw, h8z])
  go_loopg [9, 10] s.size (fun g _ _ wx => ∃ pos : Nat, pos + g = s.size ∧ wx.heap[w.heap.size]? = some (.stringIter s pos) ∧ Below w.heap.size w wx ∧ hasDU (s.data.toList.drop pos) = G)
  case atStart => exact ⟨0, by omega, World.iter_heap w s 0, (Below.refl _ w).alloc (Nat.le_refl _) _, by rw [List.drop_zero]; exact hG⟩
  case round =>
    clear hG
    obtain ⟨pos, hpg, hit, hbw, hH⟩ := hrel
    by_cases hps : pos < s.size
    · obtain ⟨R, n, hRn, hR1, hn1, hn2, hcase⟩ := HD.out pos hps
      have hnx : ∀ ty, (Instr.next (.pointer (some ⟨w.heap.size, 0, none⟩)) true ty).run Tryz.prog wr = _ := fun ty => Lib.run_next_any_at wr w.heap.size s pos ty hit hps
      rw [hRn] at hnx
      have hit2 := Lib.iterAt_heap wr w.heap.size s pos (pos + n) hit
      have hbw2 := Lib.below_iterAt hbw (k := w.heap.size) (Nat.le_refl _) s (pos + n)
      obtain ⟨W, hWd⟩ : ∃ W, wr.iterAt w.heap.size s (pos + n) = W := ⟨_, rfl⟩
      simp only at hnx
      rw [hWd] at hnx hit2 hbw2
      have hgt : s.data.toList.getD pos 0 = s.data.toList[pos]'(by omega) := by rw [List.getD_eq_getElem?_getD, List.getElem?_eq_getElem (by omega)]; rfl
      cases hdu : isDU R with
      | true =>
        have hfin : G = true := by
          rw [← hH, List.drop_eq_getElem_cons (by omega)]
          rcases hcase with ⟨_, h2, _⟩ | ⟨h2, _⟩
          · unfold hasDU
            rw [List.any_cons, ← hgt, h2, hdu]; rfl
          · rw [isDU_wide R h2] at hdu; cases hdu
        have HF := Lib.hid hfin
        have HC := Lib.hid (HRU.out R W hR1)
        have HB := Lib.hid hbw2
        clear hH hcase hfin hRn hit hbw hWd hit2 hbw2 hgt
        go_wp2_with (go_at_call 154; refine HC.out.mono ?_; rintro e w2 ⟨z, rfl, hz, hb2⟩; rw [hdu] at hz; have hz2 : (0 : Int) ≤ z := of_decide_eq_true hz; have HB2 := Lib.hid hb2; clear hb2 hz)
        go_ret
        exact ⟨_, rfl, by rw [HF.out]; exact decide_eq_true (by omega), HB.out.trans (HB2.out.mono HB.out.size)⟩
      | false =>
        have hnext : hasDU (s.data.toList.drop (pos + n)) = G := by
          rw [← hH]
          have key : ∀ m, m ≤ n → hasDU (s.data.toList.drop pos) = hasDU (s.data.toList.drop (pos + m)) := by
            intro m
            induction m with
            | zero => intro _; rfl
            | succ m ih =>
              intro hm
              rw [ih (by omega), List.drop_eq_getElem_cons (show pos + m < s.data.toList.length by omega)]
              unfold hasDU
              rw [List.any_cons]
              have hb : isDU (s.data.toList[pos + m]'(by omega)).toNat = false := by
                have hg2 : s.data.toList.getD (pos + m) 0 = s.data.toList[pos + m]'(by omega) := by rw [List.getD_eq_getElem?_getD, List.getElem?_eq_getElem (by omega)]; rfl
                rcases hcase with ⟨h1, h2, _⟩ | ⟨_, h2⟩
                · obtain rfl : m = 0 := by omega
                  rw [← hg2, Nat.add_zero, h2]; exact hdu
                · rw [← hg2]; exact isDU_wide _ (h2 m (by omega))
              rw [hb, Bool.false_or]; rfl
          exact (key n (Nat.le_refl _)).symm
        have HN := Lib.hid hnext
        have HC := Lib.hid (HRU.out R W hR1)
        have HB := Lib.hid hbw2
        have HI := Lib.hid hit2
        clear hH hcase hnext hRn hit hbw hWd hit2 hbw2 hgt
        go_wp2_with (go_at_call 154; refine HC.out.mono ?_; rintro e w2 ⟨z, rfl, hz, hb2⟩; rw [hdu] at hz; have hz2 : decide ((0 : Int) ≤ z) = false := hz; have HB2 := Lib.hid hb2; clear hb2 hz)
        go_roundg (s.size - (pos + n))
        case measure => omega
        case rel => exact ⟨pos + n, by omega, (HB2.out.block _ (blk_lt HI.out)).trans HI.out, HB.out.trans (HB2.out.mono HB.out.size), HN.out⟩
    · have hnx : ∀ ty, (Instr.next (.pointer (some ⟨w.heap.size, 0, none⟩)) true ty).run Tryz.prog wr = _ := fun ty => Lib.run_next_end_at wr w.heap.size s pos ty hit hps
      rw [List.drop_eq_nil_of_le (by omega)] at hH
      have HH := Lib.hid hH
      have HB := Lib.hid hbw
      clear hH hbw
      go_wp2
      go_ret
      exact ⟨_, rfl, by rw [← HH.out]; rfl, HB.out⟩
theorem indexAny_du (s : ByteArray) (w : World) (hs : s.size < 4294967281) : Calls Tryz.prog 130 #[.string s, .string DU] w fun e w' => ∃ n : Int, e = .returned (.int .i64 n) ∧ decide (0 ≤ n) = hasDU s.data.toList ∧ Below w.heap.size w w' := by
  by_cases h8 : s.size ≤ 8
  · exact indexAny_short s w h8
  · refine (Tryz.strings_IndexAny_long (by intro w; kernel_rfl) s DU w (by decide) (by omega) hs (by decide) (fun j b hb => DU_small b (List.mem_of_getElem? hb))).mono fun e w' ⟨he, hw⟩ => ⟨_, he, ?_, ?_⟩
    · exact containsAny_DU s.data.toList
    · rw [hw]; exact below_alloc (below_alloc (Below.refl _ _) _) _
def strings_ContainsAny.f (a0 a1 : ByteArray) : Option Bool := if a0.size < 4294967281 ∧ a1 = DU then some (hasDU a0.data.toList) else none
set_option maxHeartbeats 1000000 in
theorem strings_ContainsAny.calls (a0 a1 : ByteArray) (r1 : Bool) (w : World) (h : strings_ContainsAny.f a0 a1 = some r1) :
    Calls Tryz.prog 96 #[.string a0, .string a1] w fun e w' => e = .returned (.bool r1) ∧ Below w.heap.size w w' := by
  unfold strings_ContainsAny.f at h
  split at h
  · rename_i hs
    obtain ⟨h1, rfl⟩ := hs
    obtain rfl := Option.some.inj h
    have HQ := Lib.hid (indexAny_du a0 w h1)
    go_enter Tryz.func96, Tryz.ntmps96
    go_wp2_with (go_at_call 130; refine HQ.out.mono ?_; rintro e w1 ⟨z, rfl, hz, hb⟩; have HZ := Lib.hid hz; clear hz)
    go_ret
    exact ⟨by rw [← HZ.out]; rfl, hb⟩
  · cases h
end Go.Proofs.YtmimipgmhgalaaaGreatDoor.PAll
end
section
namespace Go.Proofs.YtmimipgmhgalaaaGreatDoor.PAll
open Go.RowKit Go.Proofs.YtmimipgmhgalaaaGreatDoorW.PrintWords
set_option linter.unusedVariables false
set_option linter.unusedSimpArgs false
set_option maxRecDepth 100000 in
set_option maxHeartbeats 1000000 in
theorem sf_low (x y : Nat) (W : World) (hx : x < 128) (hy : y < 65536) (h : W.cell? ⟨0, x, none⟩ = some (.int .u16 (y : Int))) : Calls Tryz.prog 95 #[.int .i32 (x : Int)] W fun e w' => e = .returned (.int .i32 (y : Int)) ∧ w' = W := by
  go_enter Tryz.func95, Tryz.ntmps95
  have c1 : ((x : Int) < 0) = False := eq_false (by omega)
  have c2 : ((x : Int) > 1114111) = False := eq_false (by omega)
  have c3 : ((x : Int) < 128) = True := eq_true (by omega)
  go_wp2
  go_ret
  exact ⟨rfl, rfl⟩
set_option maxRecDepth 100000 in
set_option maxHeartbeats 1000000 in
theorem sf_383 (b o cap : Nat) (sp : Option Nat) (W : World) (h0 : W.cell? ⟨1, 0, none⟩ = some (.slice (some ⟨b, o, sp⟩) 94 cap)) (h47 : W.cell? ⟨b, o + 94, none⟩ = some (.int .u16 966)) (h23 : W.cell? ⟨b, o + 46, none⟩ = some (.int .u16 837)) (h11 : W.cell? ⟨b, o + 22, none⟩ = some (.int .u16 452)) (h5 : W.cell? ⟨b, o + 10, none⟩ = some (.int .u16 197))
    (h8 : W.cell? ⟨b, o + 16, none⟩ = some (.int .u16 304)) (h10 : W.cell? ⟨b, o + 20, none⟩ = some (.int .u16 383)) (h9 : W.cell? ⟨b, o + 18, none⟩ = some (.int .u16 305)) (h10b : W.cell? ⟨b, o + 20 + 1, none⟩ = some (.int .u16 83)) : Calls Tryz.prog 95 #[.int .i32 383] W fun e w' => e = .returned (.int .i32 83) ∧ w' = W := by
  go_enter Tryz.func95, Tryz.ntmps95
  go_wp2
  refine wp_loop_rounds 8 ?_
  rw [rounds_succ]
  go_wp2
  rw [rounds_succ]
  go_wp2
  rw [rounds_succ]
  go_wp2
  rw [rounds_succ]
  go_wp2
  rw [rounds_succ]
  go_wp2
  rw [rounds_succ]
  go_wp2
  rw [rounds_succ]
  go_wp2
  rw [rounds_succ]
  go_wp2
  go_ret
  exact ⟨rfl, rfl⟩
abbrev WBas0 : ByteArray := ⟨#[98, 97, 115, 105, 99]⟩
theorem or_u8 (a b : Nat) (ha : a < 256) (hb : b < 256) : bits .or .u8 (a : Int) (b : Int) = ((a ||| b : Nat) : Int) := (bits_nat .u8 8 (by decide) wraps_u8 a b ha hb).2
theorem or_low (a b : Nat) (ha : a < 256) (hb : b < 256) (h : bits .or .u8 (a : Int) (b : Int) < 128) : a < 128 := by
  rw [or_u8 a b ha hb] at h
  have := Nat.left_le_or (n := a) (m := b)
  omega
theorem or_high (a b : Nat) (ha : a < 256) (hb : b < 128) (h : 128 ≤ bits .or .u8 (a : Int) (b : Int)) : 128 ≤ a := by
  rw [or_u8 a b ha (by omega)] at h
  apply Classical.byContradiction
  intro hn
  have := Nat.or_lt_two_pow (x := a) (y := b) (n := 7) (by omega) (by omega)
  omega
theorem getD_at (s : ByteArray) (i : Nat) (h : i < s.size) : s.data.toList.getD i 0 = s[i]'h := by rw [List.getD_eq_getElem?_getD, List.getElem?_eq_getElem (by simpa using h)]; rfl
theorem WBas_low : ∀ i : Nat, i < 5 → (WBas0.data.toList.getD i 0).toNat < 128 := by decide
def ascT (j : Nat) : Nat := if j = 107 then 8490 else if j = 115 then 383 else if 65 ≤ j ∧ j ≤ 90 then j + 32 else if 97 ≤ j ∧ j ≤ 122 then j - 32 else j
structure FoldT (W : World) : Prop where
  asc : ∀ j, j < 128 → W.cell? ⟨0, j, none⟩ = some (.int .u16 (ascT j : Int))
  orb : ∃ b o cap sp, W.cell? ⟨1, 0, none⟩ = some (.slice (some ⟨b, o, sp⟩) 94 cap) ∧ W.cell? ⟨b, o + 94, none⟩ = some (.int .u16 966) ∧ W.cell? ⟨b, o + 46, none⟩ = some (.int .u16 837) ∧ W.cell? ⟨b, o + 22, none⟩ = some (.int .u16 452) ∧ W.cell? ⟨b, o + 10, none⟩ = some (.int .u16 197) ∧
    W.cell? ⟨b, o + 16, none⟩ = some (.int .u16 304) ∧ W.cell? ⟨b, o + 20, none⟩ = some (.int .u16 383) ∧ W.cell? ⟨b, o + 18, none⟩ = some (.int .u16 305) ∧ W.cell? ⟨b, o + 20 + 1, none⟩ = some (.int .u16 83)
theorem FoldT.below {w W : World} (h : FoldT w) (hb : Below w.heap.size w W) : FoldT W := by
  obtain ⟨h1, b, o, cap, sp, h2, h3, h4, h5, h6, h7, h8, h9, h10⟩ := h
  exact ⟨fun j hj => pw_cell_below hb (h1 j hj), b, o, cap, sp, pw_cell_below hb h2, pw_cell_below hb h3, pw_cell_below hb h4, pw_cell_below hb h5, pw_cell_below hb h6, pw_cell_below hb h7, pw_cell_below hb h8, pw_cell_below hb h9, pw_cell_below hb h10⟩
def sfT (x : Nat) : Nat := if x = 383 then 83 else ascT x
theorem ascT_lt : ∀ x, x < 128 → ascT x < 65536 := by decide +kernel
theorem sf_any (x : Nat) (W : World) (hT : FoldT W) (hx : x < 128 ∨ x = 383) : Calls Tryz.prog 95 #[.int .i32 (x : Int)] W fun e w' => e = .returned (.int .i32 (sfT x : Int)) ∧ w' = W := by
  by_cases h : x = 383
  · subst h
    obtain ⟨b, o, cap, sp, h2, h3, h4, h5, h6, h7, h8, h9, h10⟩ := hT.orb
    exact sf_383 b o cap sp W h2 h3 h4 h5 h6 h7 h8 h9 h10
  · have hx' : x < 128 := by omega
    have e : sfT x = ascT x := if_neg h
    rw [e]
    exact sf_low x (ascT x) W hx' (ascT_lt x hx') (hT.asc x hx')
abbrev WBas : ByteArray := ⟨#[98, 97, 115, 105, 99]⟩
set_option maxRecDepth 100000 in
theorem dr_low (s : ByteArray) (w : World) (h : 0 < s.size) (hlow : (s[0]'h).toNat < 128) : Calls Tryz.prog 94 #[.string s] w fun e w' => e = .returned (.tuple #[.int .i32 ((s[0]'h).toNat : Int), .int .i64 1]) ∧ w' = w := by
  have hz : (s.size : Int) ≠ 0 := by omega
  have h0 : (0 : Int) < (s.size : Int) := by omega
  have he : s.toList.isEmpty = false := by
    rw [ByteArray.toList_eq]
    have : s.data.toList.length = s.size := by simp
    cases hh : s.data.toList with
    | nil => rw [hh] at this; simp at this; omega
    | cons => rfl
  go_enter Tryz.func94, Tryz.ntmps94
  go_wp2
  go_ret2
  exact ⟨rfl, rfl⟩
theorem dec_383 (s : ByteArray) (pos n : Nat) (h : pos < s.size) (e : Utf8.decode s pos = (383, n)) : 2 ≤ n := by
  have hl : s.data.toList.length = s.size := by rw [Array.length_toList]; rfl
  rw [Lib.decode_N, hl] at e
  have l0 := (s.data.toList.getD pos 0).toNat_lt
  generalize e0 : (s.data.toList.getD pos 0).toNat = b0 at *
  generalize e1 : (s.data.toList.getD (pos + 1) 0).toNat = b1 at *
  generalize e2 : (s.data.toList.getD (pos + 2) 0).toNat = b2 at *
  generalize e3 : (s.data.toList.getD (pos + 3) 0).toNat = b3 at *
  by_cases hb : b0 < 128
  · unfold Lib.decodeN at e
    rw [if_pos hb] at e
    injection e with ea eb
    omega
  · rcases Lib.decodeN_shape (s.size - pos) b0 b1 b2 b3 with ⟨h1, _⟩ | ⟨h1, h2, h3, h4, h5⟩ | ⟨h1, h2, h3, h4, h5, h6, h7⟩ | ⟨h1, h2, h3, h4, h5, h6, h7, h8⟩ | h1
    · omega
    · rw [h5] at e; injection e with ea eb; omega
    · rw [h7] at e; injection e with ea eb; omega
    · rw [h8] at e; injection e with ea eb; omega
    · rw [h1] at e; injection e with ea eb; omega
structure Wd (S T : ByteArray) (pos m : Nat) : Prop where
  t : T.data.toList = ([98, 97, 115, 105, 99] : List UInt8).drop m
  ml : m ≤ 5
  pl : pos ≤ S.size
  le : S.size - pos ≤ 5 - m
  eq : S.size - pos = 5 - m → pos < S.size ∧ 128 ≤ (S.data.toList.getD pos 0).toNat
theorem Wd.size {S T : ByteArray} {pos m : Nat} (h : Wd S T pos m) : T.size = 5 - m := by
  have : T.data.toList.length = T.size := by simp
  rw [← this, h.t, List.length_drop]; rfl
theorem Wd.next {S T : ByteArray} {pos m n : Nat} (h : Wd S T pos m) (hlt : pos < S.size) (hn : pos + n ≤ S.size) (h1 : 1 ≤ n) (hc : (S.data.toList.getD pos 0).toNat < 128 ∨ 2 ≤ n) (hm : m < 5) : Wd S (T.extract 1 T.size) (pos + n) (m + 1) := by
  have hs := h.size
  have hle := h.le
  refine ⟨?_, by omega, by omega, by omega, fun e => ?_⟩
  · rw [Lib.extract_data, h.t, List.drop_drop, List.take_of_length_le]
    · rw [List.length_drop]; show 5 - (m + 1) ≤ _; omega
  · rcases hc with hc | hc
    · have := h.eq (by omega); omega
    · omega
theorem Wd.letter {S T : ByteArray} {pos m : Nat} (h : Wd S T pos m) (hm : m < 5) : ∃ (h0 : 0 < T.size), ((T[0]'h0).toNat = 98 ∨ (T[0]'h0).toNat = 97 ∨ (T[0]'h0).toNat = 115 ∨ (T[0]'h0).toNat = 105 ∨ (T[0]'h0).toNat = 99) := by
  have hs := h.size
  refine ⟨by omega, ?_⟩
  rw [← getD_at T 0 (by omega), h.t, List.getD_eq_getElem?_getD, List.getElem?_drop, Nat.add_zero]
  match m, hm with
  | 0, _ => exact .inl rfl
  | 1, _ => exact .inr (.inl rfl)
  | 2, _ => exact .inr (.inr (.inl rfl))
  | 3, _ => exact .inr (.inr (.inr (.inl rfl)))
  | 4, _ => exact .inr (.inr (.inr (.inr rfl)))
theorem next_far {f : Nat → Nat} {i : Nat} (h : ∃ j, i ≤ j ∧ j < 5 ∧ 128 ≤ f j) (hi : f i < 128) : ∃ j, i + 1 ≤ j ∧ j < 5 ∧ 128 ≤ f j := by
  obtain ⟨j, j1, j2, j3⟩ := h
  have hne : i ≠ j := by
    intro e
    rw [e] at hi
    omega
  exact ⟨j, by omega, j2, j3⟩
theorem wide_mk (s L : ByteArray) (i : Nat) (u2 u3 u4 u6 u7 u8 u9 u10 u11 u12 u13 u14 u15 u16 u17 u18 u19 u20 u21 u22 u23 u24 u25 u26 u27 u28 u29 u30 u31 u32 u33 u34 u35 u36 u37 u38 u39 u40 u41 u42 u43 u44 u45 u46 u47 u48 u49 u50 u51 u52 u53 u54 u55 u56 u57 u58 u59 u60 u61 u62 u63 u64 u65 u66 u67 u68 u69 u70 u71 u72 u73 u74 u75 u76 u77 u78 u79 u80 u81 u82 u83 u84 u85 u86 u87 u88 u89 u90 u91 u92 u93 u94 u95 u96 u97 u98 u99 u100 u101 u102 u103 u104 u105 u106 u107 u108 u109 u110 u111 u112 u113 u114 u115 u116 u117 u118 u119 u120 u121 u122 : Value) : ∃ u : Nat → Value, ({ tmps := #[.string s, .string L, u2, u3, u4, .int .i64 (i : Int), u6, u7, u8, u9, u10, u11, u12, u13, u14, u15, u16, u17, u18, u19, u20, u21, u22, u23, u24, u25, u26, u27, u28, u29, u30, u31, u32, u33, u34, u35, u36, u37, u38, u39, u40, u41, u42, u43, u44, u45, u46, u47, u48, u49, u50, u51, u52, u53, u54, u55, u56, u57, u58, u59, u60, u61, u62, u63, u64, u65, u66, u67, u68, u69, u70, u71, u72, u73, u74, u75, u76, u77, u78, u79, u80, u81, u82, u83, u84, u85, u86, u87, u88, u89, u90, u91, u92, u93, u94, u95, u96, u97, u98, u99, u100, u101, u102, u103, u104, u105, u106, u107, u108, u109, u110, u111, u112, u113, u114, u115, u116, u117, u118, u119, u120, u121, u122], defers := [] } : Act) = { tmps := #[.string s, .string L, u 2, u 3, u 4, .int .i64 (i : Int), u 6, u 7, u 8, u 9, u 10, u 11, u 12, u 13, u 14, u 15, u 16, u 17, u 18, u 19, u 20, u 21, u 22, u 23, u 24, u 25, u 26, u 27, u 28, u 29, u 30, u 31, u 32, u 33, u 34, u 35, u 36, u 37, u 38, u 39, u 40, u 41, u 42, u 43, u 44, u 45, u 46, u 47, u 48, u 49, u 50, u 51, u 52, u 53, u 54, u 55, u 56, u 57, u 58, u 59, u 60, u 61, u 62, u 63, u 64, u 65, u 66, u 67, u 68, u 69, u 70, u 71, u 72, u 73, u 74, u 75, u 76, u 77, u 78, u 79, u 80, u 81, u 82, u 83, u 84, u 85, u 86, u 87, u 88, u 89, u 90, u 91, u 92, u 93, u 94, u 95, u 96, u 97, u 98, u 99, u 100, u 101, u 102, u 103, u 104, u 105, u 106, u 107, u 108, u 109, u 110, u 111, u 112, u 113, u 114, u 115, u 116, u 117, u 118, u 119, u 120, u 121, u 122], defers := [] } := ⟨fun k => [undef, undef, u2, u3, u4, undef, u6, u7, u8, u9, u10, u11, u12, u13, u14, u15, u16, u17, u18, u19, u20, u21, u22, u23, u24, u25, u26, u27, u28, u29, u30, u31, u32, u33, u34, u35, u36, u37, u38, u39, u40, u41, u42, u43, u44, u45, u46, u47, u48, u49, u50, u51, u52, u53, u54, u55, u56, u57, u58, u59, u60, u61, u62, u63, u64, u65, u66, u67, u68, u69, u70, u71, u72, u73, u74, u75, u76, u77, u78, u79, u80, u81, u82, u83, u84, u85, u86, u87, u88, u89, u90, u91, u92, u93, u94, u95, u96, u97, u98, u99, u100, u101, u102, u103, u104, u105, u106, u107, u108, u109, u110, u111, u112, u113, u114, u115, u116, u117, u118, u119, u120, u121, u122].getD k undef, rfl⟩
def WideJ (s L : ByteArray) (w : World) (a' : Act) (w' : World) : Prop := w' = w ∧ ∃ (i : Nat), i < 5 ∧ 128 ≤ (s.data.toList.getD i 0).toNat ∧ ∃ u : Nat → Value, a' = { tmps := #[.string s, .string L, u 2, u 3, u 4, .int .i64 (i : Int), u 6, u 7, u 8, u 9, u 10, u 11, u 12, u 13, u 14, u 15, u 16, u 17, u 18, u 19, u 20, u 21, u 22, u 23, u 24, u 25, u 26, u 27, u 28, u 29, u 30, u 31, u 32, u 33, u 34, u 35, u 36, u 37, u 38, u 39, u 40, u 41, u 42, u 43, u 44, u 45, u 46, u 47, u 48, u 49, u 50, u 51, u 52, u 53, u 54, u 55, u 56, u 57, u 58, u 59, u 60, u 61, u 62, u 63, u 64, u 65, u 66, u 67, u 68, u 69, u 70, u 71, u 72, u 73, u 74, u 75, u 76, u 77, u 78, u 79, u 80, u 81, u 82, u 83, u 84, u 85, u 86, u 87, u 88, u 89, u 90, u 91, u 92, u 93, u 94, u 95, u 96, u 97, u 98, u 99, u 100, u 101, u 102, u 103, u 104, u 105, u 106, u 107, u 108, u 109, u 110, u 111, u 112, u 113, u 114, u 115, u 116, u 117, u 118, u 119, u 120, u 121, u 122], defers := [] }
set_option maxRecDepth 100000 in
set_option maxHeartbeats 2000000 in
theorem fold_wide (s : ByteArray) (hs : s.size = 5) (hn : ∃ j, j < 5 ∧ 128 ≤ (s.data.toList.getD j 0).toNat) (w : World) (hT : FoldT w) : Calls Tryz.prog 62 #[.string s, .string WBas] w fun e w' => e = .returned (.bool false) ∧ Below w.heap.size w w' := by
  have HT := Lib.hid hT
  have HN := Lib.hid hn
  clear hn hT
  have hL0 : WBas.size = 5 := rfl
  obtain ⟨L, hL⟩ : ∃ L, L = WBas := ⟨_, rfl⟩
  rw [← hL] at hL0 ⊢
  have HL := Lib.hid hL
  clear hL
  go_enter Tryz.func62, Tryz.ntmps62
  go_wp2
  refine wp_scope_jumps 0 (WideJ s L w) (fun _ _ => 0) rfl ?_ ?_
  · go_wp2
    go_loopg [5] 5 (fun gf v5 wx => ∃ i : Nat, v5 = .int .i64 (i : Int) ∧ i + gf = 5 ∧ wx = w ∧ ∃ j, i ≤ j ∧ j < 5 ∧ 128 ≤ (s.data.toList.getD j 0).toNat)
    case atStart => exact ⟨0, rfl, rfl, rfl, by obtain ⟨j, h1, h2⟩ := HN.out; exact ⟨j, Nat.zero_le _, h1, h2⟩⟩
    case round =>
      obtain ⟨i, rfl, hg, rfl, hj⟩ := hrel
      have hLlow : ∀ i (h : i < L.size), (L[i]'h).toNat < 128 := fun i h => by
        rw [← getD_at L i h, HL.out]
        exact WBas_low i (by omega)
      have HLL := Lib.hid hLlow
      have HJ := Lib.hid hj
      clear hj hLlow
      go_wp2
      · go_step3
        have h5 : i < 5 := by omega
        have hor : 128 ≤ bits .or .u8 (((s[i]'(by omega)).toNat : Nat) : Int) (((L[i]'(by omega)).toNat : Nat) : Int) := by assumption
        have hhi := or_high _ _ (UInt8.toNat_lt _) (HLL.out i (by omega)) hor
        rw [← getD_at s i (by omega)] at hhi
        exact ⟨rfl, rfl, i, h5, hhi, wide_mk s L i _ _ _ _ _ _ _ _ _ _ _ _ _ _ _ _ _ _ _ _ _ _ _ _ _ _ _ _ _ _ _ _ _ _ _ _ _ _ _ _ _ _ _ _ _ _ _ _ _ _ _ _ _ _ _ _ _ _ _ _ _ _ _ _ _ _ _ _ _ _ _ _ _ _ _ _ _ _ _ _ _ _ _ _ _ _ _ _ _ _ _ _ _ _ _ _ _ _ _ _ _ _ _ _ _ _ _ _ _ _ _ _ _ _ _ _ _ _ _ _⟩
      all_goals first
        | (simp only [Exit.jump]; go_ret; exact ⟨rfl, Below.refl _ _⟩)
        | (exfalso; obtain ⟨j, j1, j2, j3⟩ := HJ.out; omega)
        | skip
      all_goals
        have h5 : i < 5 := by omega
        have hor : bits .or .u8 (((s[i]'(by omega)).toNat : Nat) : Int) (((L[i]'(by omega)).toNat : Nat) : Int) < 128 := by assumption
        have hlow := or_low _ _ (UInt8.toNat_lt _) (UInt8.toNat_lt _) hor
        rw [← getD_at s i (by omega)] at hlow
        go_roundg (gk - 1)
        case measure => omega
        case rel => exact ⟨i + 1, rfl, by omega, rfl, next_far HJ.out hlow⟩
  · rintro a' w' ⟨rfl, i, hi, hwide, u, rfl⟩
    have c1 : ((i : Int) ≤ (s.size : Int)) = True := eq_true (by omega)
    have c2 : ((i : Int) ≤ (L.size : Int)) = True := eq_true (by omega)
    have hWd : Wd (s.extract i 5) (L.extract i 5) 0 i := by
      have e1 : (s.extract i 5).data.toList = s.data.toList.drop i := by
        rw [Lib.extract_data, List.take_of_length_le]
        rw [List.length_drop, Array.length_toList]; show s.size - i ≤ _; omega
      have e2 : (s.extract i 5).size = 5 - i := by
        have : (s.extract i 5).data.toList.length = (s.extract i 5).size := by rw [Array.length_toList]; rfl
        rw [← this, e1, List.length_drop, Array.length_toList]; show s.size - i = _; rw [hs]
      refine ⟨?_, by omega, by omega, by omega, fun _ => ⟨by omega, ?_⟩⟩
      · rw [Lib.extract_data, HL.out]
        exact List.take_of_length_le (by rw [List.length_drop]; exact Nat.le_refl _)
      · rw [e1, List.getD_eq_getElem?_getD, List.getElem?_drop, Nat.add_zero, ← List.getD_eq_getElem?_getD]; exact hwide
    have HW := Lib.hid hWd
    clear hWd hwide
    go_wp2
    obtain ⟨S, hS⟩ : ∃ S, S = s.extract i 5 := ⟨_, rfl⟩
    obtain ⟨T0, hT0⟩ : ∃ T0, T0 = L.extract i 5 := ⟨_, rfl⟩
    rw [← hS, ← hT0]
    rw [← hS, ← hT0] at HW
    clear hS hT0 c1 c2 HN HL
    have HDF := Lib.hid (dec_facts S)
    have H383 := Lib.hid (dec_383 S)
    go_loopg [1] S.size (fun g v1 wx => ∃ (T : ByteArray) (pos m : Nat), v1 = .string T ∧ Wd S T pos m ∧ pos + g = S.size ∧ wx.heap[w'.heap.size]? = some (.stringIter S pos) ∧ Below w'.heap.size w' wx)
    case atStart => exact ⟨_, 0, i, rfl, HW.out, by omega, World.iter_heap w' S 0, (Below.refl _ w').alloc (Nat.le_refl _) _⟩
    case round =>
      obtain ⟨T, pos, m, rfl, hW, hpg, hit, hbw⟩ := hrel
      by_cases hps : pos < S.size
      · obtain ⟨R, n, hRn, hR1, hn1, hn2, hcase⟩ := HDF.out pos hps
        have hm5 : m < 5 := by have := hW.le; have := hW.ml; omega
        obtain ⟨h0, hy⟩ := hW.letter hm5
        have hTz : T.size = 5 - m := hW.size
        have hnx : ∀ ty, (Instr.next (.pointer (some ⟨w'.heap.size, 0, none⟩)) true ty).run Tryz.prog wr = _ := fun ty => Lib.run_next_any_at wr w'.heap.size S pos ty hit hps
        rw [hRn] at hnx
        have hit2 := Lib.iterAt_heap wr w'.heap.size S pos (pos + n) hit
        have hbw2 := Lib.below_iterAt hbw (k := w'.heap.size) (Nat.le_refl _) S (pos + n)
        obtain ⟨W, hWd⟩ : ∃ W, wr.iterAt w'.heap.size S (pos + n) = W := ⟨_, rfl⟩
        simp only at hnx
        rw [hWd] at hnx hit2 hbw2
        have HTW := Lib.hid (HT.out.below hbw2)
        have HD := Lib.hid (fun V : World => dr_low T V h0 (by omega))
        obtain ⟨y, hyd⟩ : ∃ y, (T[0]'h0).toNat = y := ⟨_, rfl⟩
        rw [hyd] at HD hy
        have hylt : y < 128 := by omega
        have k1 : ((1 : Int) ≤ (T.size : Int)) = True := eq_true (by omega)
        have k2 : ((T.size : Int) == 0) = false := by rw [beq_eq_false_iff_ne]; omega
        have H2 := Lib.hid (fun (e : R = 383) => H383.out pos n hps (by rw [hRn, e]))
        have HNX := Lib.hid (fun hc => hW.next (n := n) hps hn2 hn1 hc hm5)
        have HI := Lib.hid hit2
        have HB := Lib.hid hbw2
        have HY := Lib.hid hy
        clear hRn hit hbw hWd hit2 hbw2 hW hy hyd HW HT hTz
        rcases hcase with ⟨hn, hbyte, hRl⟩ | ⟨hRh, hbytes⟩
        · have HC := Lib.hid hbyte
          clear hbyte
          go_wp2_with (go_at_call 94; refine (HD.out _).mono ?_; rintro e w2 ⟨rfl, rfl⟩)
          all_goals first
            | (go_roundg (S.size - (pos + n))
               case measure => omega
               case rel => exact ⟨_, pos + n, m + 1, rfl, HNX.out (.inl (by rw [HC.out]; exact hRl)), by omega, HI.out, HB.out⟩)
            | (go_ret; exact ⟨rfl, HB.out⟩)
            | (simp only [Exit.jump]; go_ret; exact ⟨rfl, HB.out⟩)
            | skip
        · clear hbytes
          by_cases hs5 : y = 115
          · subst hs5
            clear hylt HY
            have H115 := Lib.hid (fun (V : World) (h : FoldT V) => show Calls Tryz.prog 95 #[.int .i32 115] V (fun e w' => e = .returned (.int .i32 383) ∧ w' = V) from sf_any 115 V h (.inl (by decide)))
            have HF383 := Lib.hid (fun (V : World) (h : FoldT V) => show Calls Tryz.prog 95 #[.int .i32 383] V (fun e w' => e = .returned (.int .i32 83) ∧ w' = V) from sf_any 383 V h (.inr rfl))
            have H83 := Lib.hid (fun (V : World) (h : FoldT V) => show Calls Tryz.prog 95 #[.int .i32 83] V (fun e w' => e = .returned (.int .i32 115) ∧ w' = V) from sf_any 83 V h (.inl (by decide)))
            have r1 : ((115 : Int) == (R : Int)) = false := by rw [beq_eq_false_iff_ne]; omega
            have r2 : ((115 : Int) < (R : Int)) = True := eq_true (by omega)
            have r3 : ((R : Int) < 128) = False := eq_false (by omega)
            have r6 : ((83 : Int) < (R : Int)) = True := eq_true (by omega)
            by_cases hq : R = 383
            · have HN2 := Lib.hid (HNX.out (.inr (H2.out hq)))
              subst hq
              clear HNX H2 H83 HF383
              go_wp2_with (first | (go_at_call 94; refine (HD.out _).mono ?_; rintro e w2 ⟨rfl, rfl⟩) | (go_at_call 95; refine (H115.out _ HTW.out).mono ?_; rintro e w2 ⟨rfl, rfl⟩))
              refine wp_loop_rounds 1 ?_
              rw [rounds_succ]
              go_wp2
              go_roundg (S.size - (pos + n))
              case measure => omega
              case rel => exact ⟨_, pos + n, m + 1, rfl, HN2.out, by omega, HI.out, HB.out⟩
            · by_cases hlt : 383 < R
              · have r4 : ((383 : Int) < (R : Int)) = True := eq_true (by omega)
                clear HNX H2
                go_wp2_with (first | (go_at_call 94; refine (HD.out _).mono ?_; rintro e w2 ⟨rfl, rfl⟩) | (go_at_call 95; refine (H115.out _ HTW.out).mono ?_; rintro e w2 ⟨rfl, rfl⟩))
                refine wp_loop_rounds 3 ?_
                rw [rounds_succ]
                go_wp2_with (go_at_call 95; refine (HF383.out _ HTW.out).mono ?_; rintro e w2 ⟨rfl, rfl⟩)
                rw [rounds_succ]
                go_wp2_with (go_at_call 95; refine (H83.out _ HTW.out).mono ?_; rintro e w2 ⟨rfl, rfl⟩)
                rw [rounds_succ]
                go_wp2
                first | go_ret | (simp only [Exit.jump]; go_ret)
                exact ⟨rfl, HB.out⟩
              · have r4 : ((383 : Int) < (R : Int)) = False := eq_false (by omega)
                have r5 : ((383 : Int) == (R : Int)) = false := by rw [beq_eq_false_iff_ne]; omega
                clear HNX H2
                go_wp2_with (first | (go_at_call 94; refine (HD.out _).mono ?_; rintro e w2 ⟨rfl, rfl⟩) | (go_at_call 95; refine (H115.out _ HTW.out).mono ?_; rintro e w2 ⟨rfl, rfl⟩))
                refine wp_loop_rounds 1 ?_
                rw [rounds_succ]
                go_wp2
                first | go_ret | (simp only [Exit.jump]; go_ret)
                exact ⟨rfl, HB.out⟩
          · obtain ⟨z, hz1, hz2, hz3, hz4⟩ : ∃ z, z < 128 ∧ z ≠ y ∧ sfT y = z ∧ sfT z = y := by
              rcases HY.out with rfl | rfl | rfl | rfl | rfl
              · exact ⟨66, by decide, by decide, by decide, by decide⟩
              · exact ⟨65, by decide, by decide, by decide, by decide⟩
              · exact absurd rfl hs5
              · exact ⟨73, by decide, by decide, by decide, by decide⟩
              · exact ⟨67, by decide, by decide, by decide, by decide⟩
            have HA := Lib.hid (fun (V : World) (h : FoldT V) => sf_any y V h (.inl hylt))
            have HZ := Lib.hid (fun (V : World) (h : FoldT V) => sf_any z V h (.inl hz1))
            rw [hz3] at HA
            rw [hz4] at HZ
            have r1 : ((y : Int) == (R : Int)) = false := by rw [beq_eq_false_iff_ne]; omega
            have r2 : ((y : Int) < (R : Int)) = True := eq_true (by omega)
            have r3 : ((R : Int) < 128) = False := eq_false (by omega)
            have r4 : ((z : Int) < (R : Int)) = True := eq_true (by omega)
            have r5 : ((z : Int) == (y : Int)) = false := by rw [beq_eq_false_iff_ne]; omega
            clear HNX H2 hz3 hz4 HY hs5
            go_wp2_with (first | (go_at_call 94; refine (HD.out _).mono ?_; rintro e w2 ⟨rfl, rfl⟩) | (go_at_call 95; refine (HA.out _ HTW.out).mono ?_; rintro e w2 ⟨rfl, rfl⟩))
            refine wp_loop_rounds 2 ?_
            rw [rounds_succ]
            go_wp2_with (go_at_call 95; refine (HZ.out _ HTW.out).mono ?_; rintro e w2 ⟨rfl, rfl⟩)
            rw [rounds_succ]
            go_wp2
            first | go_ret | (simp only [Exit.jump]; go_ret)
            exact ⟨rfl, HB.out⟩
      · have hm5 : m < 5 := by
          have h1 := hW.ml
          have h2 := hW.eq
          have h3 := hW.le
          apply Classical.byContradiction
          intro hn
          have := (h2 (by omega)).1
          omega
        have hTz : (T.size == 0) = false := by rw [beq_eq_false_iff_ne, hW.size]; omega
        have hTi : ((T.size : Int) == 0) = false := by rw [beq_eq_false_iff_ne, hW.size]; omega
        have hnx : ∀ ty, (Instr.next (.pointer (some ⟨w'.heap.size, 0, none⟩)) true ty).run Tryz.prog wr = _ := fun ty => Lib.run_next_end_at wr w'.heap.size S pos ty hit hps
        have HB := Lib.hid hbw
        clear hW hbw hit
        go_wp2
        all_goals first
          | (go_ret; exact ⟨rfl, HB.out⟩)
          | (simp only [Exit.jump]; go_ret; exact ⟨rfl, HB.out⟩)
end Go.Proofs.YtmimipgmhgalaaaGreatDoor.PAll
end
section
namespace Go.Proofs.YtmimipgmhgalaaaGreatDoor.PAll
open Go.RowKit Go.Proofs.YtmimipgmhgalaaaGreatDoorW.PrintWords Go.Proofs.YtmimipgmhgalaaaGreatDoorW.PrintLast Go.Proofs.YtmimipgmhgalaaaGreatDoorW.PrintMore
attribute [local go_sem] max2_int min2_int max_two min_two max_three min_three max_four min_four
set_option linter.unusedVariables false
set_option linter.unusedSimpArgs false
def digest_place.l0 : Nat → ByteArray → Int → Int → Int → Option (Int)
 | 0, _, _, _, _ => none
 | k + 1, x0, x1, x7, x8 => if x8 < x7 then (if 0 ≤ x8 then (if x8 < (x0.size : Int) then (if (bt x0 x8) = x1 then (some x8) else (digest_place.l0 k x0 x1 x7 (wrap64 (x8 + 1)))) else (none)) else (none)) else (some (-1))
def digest_place.f (k : Nat) (a0 : ByteArray) (a1 : Int) : Option (Int) := digest_place.l0 k a0 a1 (a0.size : Int) 0
set_option maxHeartbeats 8000000 in
set_option maxRecDepth 100000 in
theorem digest_place.calls (k : Nat) (a0 : ByteArray) (a1 : Int) (r : Int) (w : World) (h : digest_place.f k a0 a1 = some r) :
 Calls Tryz.prog 157 #[.string a0, .int .u8 a1] w fun e w' => e = .returned (.int .i64 r) ∧ Drawn0 w w' := by
 have H : (digest_place.l0 k a0 a1 (a0.size : Int) 0) = some r := h
 clear h
 have H' := Aside0.mk H
 clear H
 go_enter Tryz.func157, Tryz.ntmps157
 go_wp2
 go_loopg [8] k (fun kq v8 w' => ∃ (x8_1 : Int), v8 = .int .i64 x8_1 ∧ Aside0 (digest_place.l0 kq a0 a1 (a0.size : Int) x8_1 = some r) ∧ Aside0 (kq ≤ k) ∧ Drawn0 w w')
 case atStart => exact ⟨(0), rfl, H', ⟨Nat.le_refl _⟩, by repeat (exact Drawn0.refl _)⟩
 case round =>
  clear H'
  obtain ⟨x8_1, rfl, HA, HK1, ⟨m1, rfl⟩⟩ := hrel
  cases gk with
  | zero => exact absurd HA.out (by simp [digest_place.l0])
  | succ k1 =>
   have H := HA.out
   clear HA
   simp only [digest_place.l0] at H
   by_cases c3 : x8_1 < (a0.size : Int)
   · rw [if_pos c3] at H
     have c3b0 : decide (x8_1 < (a0.size : Int)) = true := decide_eq_true c3
     clear c3
     by_cases c4 : 0 ≤ x8_1
     · rw [if_pos c4] at H
       have c4b0 : decide (0 ≤ x8_1) = true := decide_eq_true c4
       clear c4
       by_cases c5 : x8_1 < (a0.size : Int)
       · rw [if_pos c5] at H
         have c5b0 : decide (x8_1 < (a0.size : Int)) = true := decide_eq_true c5
         clear c5
         by_cases c7 : (bt a0 x8_1) = a1
         · rw [if_pos c7] at H
           have c7b0 : ((bt a0 x8_1) == a1) = true := beq_iff_eq.mpr c7
           have c7b1 : ((bt a0 x8_1) != a1) = false := bne_eq_false_iff_eq.mpr c7
           clear c7
           obtain rfl := Option.some.inj H
           have p6 : 0 ≤ (x8_1 : Int) := of_decide_eq_true (by assumption)
           have q6 : x8_1 < (a0.size : Int) := of_decide_eq_true (by assumption)
           have hx6 := bt_at a0 x8_1
           replace p6 := eq_true p6
           replace q6 := eq_true q6
           go_wp2
           go_ret
           exact ⟨by (rfl), by repeat (first | exact Drawn0.refl _ | apply Drawn0.step)⟩
         · rw [if_neg c7] at H
           have c7b0 : ((bt a0 x8_1) == a1) = false := beq_eq_false_iff_ne.mpr c7
           have c7b1 : ((bt a0 x8_1) != a1) = true := bne_iff_ne.mpr c7
           have H' := Aside0.mk H
           clear H
           have p6 : 0 ≤ (x8_1 : Int) := of_decide_eq_true (by assumption)
           have q6 : x8_1 < (a0.size : Int) := of_decide_eq_true (by assumption)
           have hx6 := bt_at a0 x8_1
           replace p6 := eq_true p6
           replace q6 := eq_true q6
           go_wp2
           go_roundg k1
           case measure => have := HK1.out; omega
           case rel => exact ⟨(wrap64 (x8_1 + 1)), rfl, H', ⟨by have := HK1.out; omega⟩, by repeat (first | exact Drawn0.refl _ | apply Drawn0.step)⟩
       · rw [if_neg c5] at H
         exact absurd H (by simp)
     · rw [if_neg c4] at H
       exact absurd H (by simp)
   · rw [if_neg c3] at H
     have c3b0 : decide (x8_1 < (a0.size : Int)) = false := decide_eq_false c3
     clear c3
     obtain rfl := Option.some.inj H
     go_wp2
     go_ret
     exact ⟨by (rfl), by repeat (first | exact Drawn0.refl _ | apply Drawn0.step)⟩
def digest_values.l0 : Nat → ByteArray → ByteArray → List Int → Int → Int → Option (List Int × Int × Int)
 | 0, _, _, _, _, _ => none
 | k + 1, x0, x1, x7, x14, x15 => if x15 < x14 then (if 0 ≤ x15 then (if x15 < (x1.size : Int) then ((digest_place.f k x0 (bt x1 x15)).bind fun t186 => (if t186 < 0 then (some (([] : List Int), 20, x15)) else (if x7.length < 17592186044416 then (digest_values.l0 k x0 x1 (x7 ++ [t186]) x14 (wrap64 (x15 + 1))) else (none)))) else (none)) else (none)) else (some (x7, 0, 0))
def digest_values.f (k : Nat) (a0 : ByteArray) (a1 : ByteArray) : Option (List Int × Int × Int) := if (a1.size : Int) > 65536 then (some (([] : List Int), 1, 0)) else (digest_values.l0 k a0 a1 ([] : List Int) (a1.size : Int) 0)
set_option maxHeartbeats 8000000 in
set_option maxRecDepth 100000 in
theorem digest_values.calls (k : Nat) (a0 : ByteArray) (a1 : ByteArray) (r1 : List Int) (r2 : Int) (r3 : Int) (w : World) (h : digest_values.f k a0 a1 = some (r1, r2, r3)) :
 Calls Tryz.prog 133 #[.string a0, .string a1] w fun e w' => ∃ v0_ : Value, e = .returned (.tuple #[v0_, .int .i64 r2, .int .i64 r3]) ∧ Kd.R (Kd.int .i64) 3 w' w.heap.size (fun _ => True) v0_ r1 ∧ Below w.heap.size w w' := by
 have HB := Aside0.mk (Below.refl w.heap.size w)
 have H : (if (a1.size : Int) > 65536 then (some (([] : List Int), 1, 0)) else (digest_values.l0 k a0 a1 ([] : List Int) (a1.size : Int) 0)) = some (r1, r2, r3) := h
 clear h
 by_cases c3 : (a1.size : Int) > 65536
 · rw [if_pos c3] at H
   have c3b0 : decide (65536 < (a1.size : Int)) = true := decide_eq_true c3
   have c3b1 : decide (65536 < a1.size) = true := decide_eq_true (by omega)
   clear c3
   simp only [Option.some.injEq, Prod.mk.injEq] at H
   obtain ⟨rfl, rfl, rfl⟩ := H
   go_enter Tryz.func133, Tryz.ntmps133
   go_wp2
   go_ret3
   exact ⟨_, rfl, by (exact Kd.R_nil _ _ _ _ _), by (with_reducible exact HB.out)⟩
 · rw [if_neg c3] at H
   have c3b0 : decide (65536 < (a1.size : Int)) = false := decide_eq_false c3
   have c3b1 : decide (65536 < a1.size) = false := decide_eq_false (by omega)
   clear c3
   have H' := Aside0.mk H
   clear H
   go_enter Tryz.func133, Tryz.ntmps133
   go_wp2
   go_loopg [7, 15] k (fun kq v7 v15 w' => ∃ (x7_1 : List Int) (x15_1 : Int), v15 = .int .i64 x15_1 ∧ Aside0 (digest_values.l0 kq a0 a1 x7_1 (a1.size : Int) x15_1 = some (r1, r2, r3)) ∧ Aside0 (kq ≤ k) ∧ Aside0 (Kd.R (Kd.int .i64) 3 w' w.heap.size (fun _ => True) v7 x7_1) ∧ Aside0 (Below w.heap.size w w'))
   case atStart => exact ⟨(([] : List Int)), (0), rfl, H', ⟨Nat.le_refl _⟩, ⟨by (exact Kd.R_nil _ _ _ _ _)⟩, ⟨HB.out⟩⟩
   case round =>
    clear H' c3b0 c3b1
    obtain ⟨x7_1, x15_1, rfl, HA, HK1, HO_7, HB⟩ := hrel
    cases gk with
    | zero => exact absurd HA.out (by simp [digest_values.l0])
    | succ k1 =>
     have H := HA.out
     clear HA
     simp only [digest_values.l0] at H
     by_cases c4 : x15_1 < (a1.size : Int)
     · rw [if_pos c4] at H
       have c4b0 : decide (x15_1 < (a1.size : Int)) = true := decide_eq_true c4
       clear c4
       by_cases c5 : 0 ≤ x15_1
       · rw [if_pos c5] at H
         have c5b0 : decide (0 ≤ x15_1) = true := decide_eq_true c5
         clear c5
         by_cases c6 : x15_1 < (a1.size : Int)
         · rw [if_pos c6] at H
           have c6b0 : decide (x15_1 < (a1.size : Int)) = true := decide_eq_true c6
           clear c6
           replace H := Option.bind_eq_some_iff.mp H
           obtain ⟨t186, A80, H⟩ := H
           replace H : (if t186 < 0 then (some (([] : List Int), 20, x15_1)) else (if x7_1.length < 17592186044416 then (digest_values.l0 k1 a0 a1 (x7_1 ++ [t186]) (a1.size : Int) (wrap64 (x15_1 + 1))) else (none))) = some (r1, r2, r3) := H
           have A8 := Aside0.mk A80
           clear A80
           by_cases c9 : t186 < 0
           · rw [if_pos c9] at H
             have c9b0 : decide (t186 < 0) = true := decide_eq_true c9
             clear c9
             simp only [Option.some.injEq, Prod.mk.injEq] at H
             obtain ⟨rfl, rfl, rfl⟩ := H
             have p7 : 0 ≤ (x15_1 : Int) := of_decide_eq_true (by assumption)
             have q7 : x15_1 < (a1.size : Int) := of_decide_eq_true (by assumption)
             have hx7 := bt_at a1 x15_1
             replace p7 := eq_true p7
             replace q7 := eq_true q7
             go_wp2_with (first | ((with_reducible refine gate_callee (f := 157) rfl ?_); refine goesL_ (some 22) rfl rfl Tryz.func157 (by kernel_rfl) rfl #[.string a0, .int .u8 (bt a1 x15_1)] rfl (by ((try simp only [List.map_toArray, List.map_cons, List.map_nil]); (rfl))) ?_; (with_reducible refine (digest_place.calls k1 a0 (bt a1 x15_1) t186 _ A8.out).mono ?_); rintro e w' ⟨rfl, ⟨nd, rfl⟩⟩; refine ⟨_, rfl, ?_⟩))
             go_ret3
             exact ⟨_, rfl, by (exact Kd.R_nil _ _ _ _ _), by (repeat (with_reducible first | exact HB.out | apply pw_below_drewN))⟩
           · rw [if_neg c9] at H
             have c9b0 : decide (t186 < 0) = false := decide_eq_false c9
             clear c9
             by_cases c10 : x7_1.length < 17592186044416
             · rw [if_pos c10] at H
               have LMc10 := Aside0.mk c10
               clear c10
               obtain ⟨y187, hy187⟩ : ∃ y_ : List Int, y_ = (x7_1 ++ [t186]) := ⟨_, rfl⟩
               replace H : (digest_values.l0 k1 a0 a1 y187 (a1.size : Int) (wrap64 (x15_1 + 1))) = some (r1, r2, r3) := by (rw [hy187]; with_reducible exact H)
               have Ny187 := Aside0.mk hy187
               clear hy187
               have H' := Aside0.mk H
               clear H
               have p7 : 0 ≤ (x15_1 : Int) := of_decide_eq_true (by assumption)
               have q7 : x15_1 < (a1.size : Int) := of_decide_eq_true (by assumption)
               have hx7 := bt_at a1 x15_1
               replace p7 := eq_true p7
               replace q7 := eq_true q7
               go_wp2_with (first | ((with_reducible refine gate_callee (f := 157) rfl ?_); refine goesL_ (some 22) rfl rfl Tryz.func157 (by kernel_rfl) rfl #[.string a0, .int .u8 (bt a1 x15_1)] rfl (by ((try simp only [List.map_toArray, List.map_cons, List.map_nil]); (rfl))) ?_; (with_reducible refine (digest_place.calls k1 a0 (bt a1 x15_1) t186 _ A8.out).mono ?_); rintro e w' ⟨rfl, ⟨nd, rfl⟩⟩; refine ⟨_, rfl, ?_⟩) | ((with_reducible refine gate_builtin (b := .append) (xs := #[.tmp 26, .tmp 28]) rfl ?_); at_builtin; refine Kd.R_append (Kd.int .i64) (w0 := w) w.heap.size rfl (.tmp 26) (.tmp 28) 122 3 (.int .i64 0) 8 rfl Tryz.underlying122 info3 rfl (by decide) (by omega) u7 x7_1 t186 [.int .i64 t186] (fun _ => True) (fun _ => False) rfl rfl ?aP (fun _ hk => hk.elim) ?aF ?aO ?aB ?aS ?aL ?_; (case aP => exact rfl); (case aB => exact (by (repeat (with_reducible first | exact HB.out | apply pw_below_drewN)))); (case aF => exact (fun _ _ => trivial)); (case aO => exact (by ((with_reducible repeat (apply Kd.R_drewN)); exact HO_7.out))); (case aS => exact (below_size (by (repeat (with_reducible first | exact HB.out | apply pw_below_drewN))))); (case aL => have := LMc10.out; omega); intro v188 w11 ho hb hg hat; rw [← Ny187.out] at ho; have n0_ := Aside0.mk hb; have n1_ := Aside0.mk ho; clear HB HO_7; have HB := n0_; have HO189 := n1_; clear n0_ n1_; clear ho hb hg hat))
               go_roundg k1
               case measure => have := HK1.out; omega
               case rel => exact ⟨(y187), (wrap64 (x15_1 + 1)), rfl, H', ⟨by have := HK1.out; omega⟩, ⟨HO189.out⟩, ⟨HB.out⟩⟩
             · rw [if_neg c10] at H
               exact absurd H (by simp)
         · rw [if_neg c6] at H
           exact absurd H (by simp)
       · rw [if_neg c5] at H
         exact absurd H (by simp)
     · rw [if_neg c4] at H
       have c4b0 : decide (x15_1 < (a1.size : Int)) = false := decide_eq_false c4
       clear c4
       simp only [Option.some.injEq, Prod.mk.injEq] at H
       obtain ⟨rfl, rfl, rfl⟩ := H
       go_wp2
       go_ret3
       exact ⟨_, rfl, by ((with_reducible repeat (first | apply Kd.R_alloc  | apply Kd.R_drewN  | apply Kd.R_drew)); exact HO_7.out), by (with_reducible exact HB.out)⟩
def digest_FromBase64.l0 : Nat → ByteArray → List Int → Int → Int → List Int → Int → Int → Option (List Int × Int × Int)
 | 0, _, _, _, _, _, _, _ => none
 | k + 1, x0, x8, x9, x10, x16, x30, x31 => if x31 < x30 then (if 0 ≤ x31 then (if x31 < (x16.length : Int) then (if (wrap64 (x10 + 6)) ≥ 8 then (if 0 ≤ (wrap64 ((wrap64 (x10 + 6)) - 8)) then (if x8.length < 140737488355328 then (digest_FromBase64.l0 k x0 (x8 ++ [(shr .i64 (Go.bits .or .i64 (wrap64 (x9 * 64)) (rd x16 x31)) (wrap64 ((wrap64 (x10 + 6)) - 8))) % 256]) (Go.bits .and .i64 (Go.bits .or .i64 (wrap64 (x9 * 64)) (rd x16 x31)) (wrap64 ((shl .i64 1 (wrap64 ((wrap64 (x10 + 6)) - 8))) - 1))) (wrap64 ((wrap64 (x10 + 6)) - 8)) x16 x30 (wrap64 (x31 + 1))) else (none)) else (none)) else (digest_FromBase64.l0 k x0 x8 (Go.bits .or .i64 (wrap64 (x9 * 64)) (rd x16 x31)) (wrap64 (x10 + 6)) x16 x30 (wrap64 (x31 + 1)))) else (none)) else (none)) else (if x9 = 0 then (some (x8, 0, 0)) else (some (([] : List Int), 21, wrap64 ((x0.size : Int) - 1))))
def digest_FromBase64.f (k : Nat) (a0 : ByteArray) : Option (List Int × Int × Int) := (digest_values.f k (⟨#[65, 66, 67, 68, 69, 70, 71, 72, 73, 74, 75, 76, 77, 78, 79, 80, 81, 82, 83, 84, 85, 86, 87, 88, 89, 90, 97, 98, 99, 100, 101, 102, 103, 104, 105, 106, 107, 108, 109, 110, 111, 112, 113, 114, 115, 116, 117, 118, 119, 120, 121, 122, 48, 49, 50, 51, 52, 53, 54, 55, 56, 57, 45, 95]⟩ : ByteArray) a0).bind fun bt190 => (if bt190.2.1 = 0 then (if ((bt190.1.length : Int) % 4) = 1 then (some (([] : List Int), 3, (a0.size : Int))) else (digest_FromBase64.l0 k a0 ([] : List Int) 0 0 bt190.1 (bt190.1.length : Int) 0)) else (some (([] : List Int), bt190.2.1, bt190.2.2)))
set_option maxHeartbeats 8000000 in
set_option maxRecDepth 100000 in
theorem digest_FromBase64.calls (k : Nat) (a0 : ByteArray) (r1 : List Int) (r2 : Int) (r3 : Int) (w : World) (h : digest_FromBase64.f k a0 = some (r1, r2, r3)) :
 Calls Tryz.prog 99 #[.string a0] w fun e w' => ∃ v0_ : Value, e = .returned (.tuple #[v0_, .int .i64 r2, .int .i64 r3]) ∧ Kd.R (Kd.int .u8) 5 w' w.heap.size (fun _ => True) v0_ r1 ∧ Below w.heap.size w w' := by
 have HB := Aside0.mk (Below.refl w.heap.size w)
 have H : ((digest_values.f k (⟨#[65, 66, 67, 68, 69, 70, 71, 72, 73, 74, 75, 76, 77, 78, 79, 80, 81, 82, 83, 84, 85, 86, 87, 88, 89, 90, 97, 98, 99, 100, 101, 102, 103, 104, 105, 106, 107, 108, 109, 110, 111, 112, 113, 114, 115, 116, 117, 118, 119, 120, 121, 122, 48, 49, 50, 51, 52, 53, 54, 55, 56, 57, 45, 95]⟩ : ByteArray) a0).bind fun bt190 => (if bt190.2.1 = 0 then (if ((bt190.1.length : Int) % 4) = 1 then (some (([] : List Int), 3, (a0.size : Int))) else (digest_FromBase64.l0 k a0 ([] : List Int) 0 0 bt190.1 (bt190.1.length : Int) 0)) else (some (([] : List Int), bt190.2.1, bt190.2.2)))) = some (r1, r2, r3) := h
 clear h
 replace H := Option.bind_eq_some_iff.mp H
 obtain ⟨⟨t190, t191, t192⟩, A20, H⟩ := H
 replace H : (if t191 = 0 then (if ((t190.length : Int) % 4) = 1 then (some (([] : List Int), 3, (a0.size : Int))) else (digest_FromBase64.l0 k a0 ([] : List Int) 0 0 t190 (t190.length : Int) 0)) else (some (([] : List Int), t191, t192))) = some (r1, r2, r3) := H
 have A2 := Aside0.mk A20
 clear A20
 by_cases c3 : t191 = 0
 · rw [if_pos c3] at H
   have c3b0 : (t191 == 0) = true := beq_iff_eq.mpr c3
   have c3b1 : (t191 != 0) = false := bne_eq_false_iff_eq.mpr c3
   clear c3
   by_cases c4 : ((t190.length : Int) % 4) = 1
   · rw [if_pos c4] at H
     have c4b0 : (((t190.length : Int) % 4) == 1) = true := beq_iff_eq.mpr c4
     have c4b1 : (((t190.length : Int) % 4) != 1) = false := bne_eq_false_iff_eq.mpr c4
     clear c4
     simp only [Option.some.injEq, Prod.mk.injEq] at H
     obtain ⟨rfl, rfl, rfl⟩ := H
     go_enter Tryz.func99, Tryz.ntmps99
     go_wp2_with (first | ((with_reducible refine gate_callee (f := 133) rfl ?_); refine goesL_ (some 15) rfl rfl Tryz.func133 (by kernel_rfl) rfl #[.string (⟨#[65, 66, 67, 68, 69, 70, 71, 72, 73, 74, 75, 76, 77, 78, 79, 80, 81, 82, 83, 84, 85, 86, 87, 88, 89, 90, 97, 98, 99, 100, 101, 102, 103, 104, 105, 106, 107, 108, 109, 110, 111, 112, 113, 114, 115, 116, 117, 118, 119, 120, 121, 122, 48, 49, 50, 51, 52, 53, 54, 55, 56, 57, 45, 95]⟩ : ByteArray), .string a0] rfl (by ((try simp only [List.map_toArray, List.map_cons, List.map_nil]); (rfl))) ?_; (with_reducible refine (digest_values.calls k (⟨#[65, 66, 67, 68, 69, 70, 71, 72, 73, 74, 75, 76, 77, 78, 79, 80, 81, 82, 83, 84, 85, 86, 87, 88, 89, 90, 97, 98, 99, 100, 101, 102, 103, 104, 105, 106, 107, 108, 109, 110, 111, 112, 113, 114, 115, 116, 117, 118, 119, 120, 121, 122, 48, 49, 50, 51, 52, 53, 54, 55, 56, 57, 45, 95]⟩ : ByteArray) a0 t190 t191 t192 _ A2.out).mono ?_); rintro e w5 ⟨v193, rfl, ho0, hb⟩; refine ⟨_, rfl, ?_⟩; have HO194 := Aside0.mk (Kd.R_lower ho0 (below_size HB.out)); replace HB := Aside0.mk (below_step HB.out hb); clear hb ho0; obtain ⟨Ao6, co6, eo6⟩ := Kd.R_slice HO194.out; subst eo6))
     go_ret3
     exact ⟨_, rfl, by (exact Kd.R_nil _ _ _ _ _), by (with_reducible exact HB.out)⟩
   · rw [if_neg c4] at H
     have c4b0 : (((t190.length : Int) % 4) == 1) = false := beq_eq_false_iff_ne.mpr c4
     have c4b1 : (((t190.length : Int) % 4) != 1) = true := bne_iff_ne.mpr c4
     have H' := Aside0.mk H
     clear H
     go_enter Tryz.func99, Tryz.ntmps99
     go_wp2_with (first | ((with_reducible refine gate_callee (f := 133) rfl ?_); refine goesL_ (some 15) rfl rfl Tryz.func133 (by kernel_rfl) rfl #[.string (⟨#[65, 66, 67, 68, 69, 70, 71, 72, 73, 74, 75, 76, 77, 78, 79, 80, 81, 82, 83, 84, 85, 86, 87, 88, 89, 90, 97, 98, 99, 100, 101, 102, 103, 104, 105, 106, 107, 108, 109, 110, 111, 112, 113, 114, 115, 116, 117, 118, 119, 120, 121, 122, 48, 49, 50, 51, 52, 53, 54, 55, 56, 57, 45, 95]⟩ : ByteArray), .string a0] rfl (by ((try simp only [List.map_toArray, List.map_cons, List.map_nil]); (rfl))) ?_; (with_reducible refine (digest_values.calls k (⟨#[65, 66, 67, 68, 69, 70, 71, 72, 73, 74, 75, 76, 77, 78, 79, 80, 81, 82, 83, 84, 85, 86, 87, 88, 89, 90, 97, 98, 99, 100, 101, 102, 103, 104, 105, 106, 107, 108, 109, 110, 111, 112, 113, 114, 115, 116, 117, 118, 119, 120, 121, 122, 48, 49, 50, 51, 52, 53, 54, 55, 56, 57, 45, 95]⟩ : ByteArray) a0 t190 t191 t192 _ A2.out).mono ?_); rintro e w7 ⟨v193, rfl, ho0, hb⟩; refine ⟨_, rfl, ?_⟩; have HO194 := Aside0.mk (Kd.R_lower ho0 (below_size HB.out)); replace HB := Aside0.mk (below_step HB.out hb); clear hb ho0; obtain ⟨Ao8, co8, eo8⟩ := Kd.R_slice HO194.out; subst eo8))
     go_loopg [8, 9, 10, 31] k (fun kq v8 v9 v10 v31 w' => ∃ (x8_1 : List Int) (x9_1 : Int) (x10_1 : Int) (x31_1 : Int), v9 = .int .i64 x9_1 ∧ v10 = .int .i64 x10_1 ∧ v31 = .int .i64 x31_1 ∧ Aside0 (digest_FromBase64.l0 kq a0 x8_1 x9_1 x10_1 t190 (t190.length : Int) x31_1 = some (r1, r2, r3)) ∧ Aside0 (kq ≤ k) ∧ Aside0 (Kd.R (Kd.int .u8) 5 w' w.heap.size (fun _ => True) v8 x8_1) ∧ Aside0 (Kd.R (Kd.int .i64) 3 w' w.heap.size (fun _ => True) (.slice Ao8 t190.length co8) t190) ∧ Aside0 (Below w.heap.size w w'))
     case atStart => exact ⟨(([] : List Int)), (0), (0), (0), rfl, rfl, rfl, H', ⟨Nat.le_refl _⟩, ⟨by (exact Kd.R_nil _ _ _ _ _)⟩, ⟨HO194.out⟩, ⟨HB.out⟩⟩
     case round =>
      clear H' c3b0 c3b1 c4 c4b0 c4b1
      obtain ⟨x8_1, x9_1, x10_1, x31_1, rfl, rfl, rfl, HA, HK1, HO_8, HO_16, HB⟩ := hrel
      cases gk with
      | zero => exact absurd HA.out (by simp [digest_FromBase64.l0])
      | succ k1 =>
       have H := HA.out
       clear HA
       simp only [digest_FromBase64.l0] at H
       by_cases c9 : x31_1 < (t190.length : Int)
       · rw [if_pos c9] at H
         have c9b0 : decide (x31_1 < (t190.length : Int)) = true := decide_eq_true c9
         clear c9
         by_cases c10 : 0 ≤ x31_1
         · rw [if_pos c10] at H
           have c10b0 : decide (0 ≤ x31_1) = true := decide_eq_true c10
           clear c10
           by_cases c11 : x31_1 < (t190.length : Int)
           · rw [if_pos c11] at H
             have c11b0 : decide (x31_1 < (t190.length : Int)) = true := decide_eq_true c11
             clear c11
             by_cases c12 : (wrap64 (x10_1 + 6)) ≥ 8
             · rw [if_pos c12] at H
               have c12b0 : decide (8 ≤ (wrap64 (x10_1 + 6))) = true := decide_eq_true c12
               clear c12
               obtain ⟨ji13, hji13⟩ : ∃ j_ : Int, (wrap64 ((wrap64 (x10_1 + 6)) - 8)) = j_ := ⟨_, rfl⟩
               replace H : (if 0 ≤ (ji13) then (if x8_1.length < 140737488355328 then (digest_FromBase64.l0 k1 a0 (x8_1 ++ [(shr .i64 (Go.bits .or .i64 (wrap64 (x9_1 * 64)) (rd t190 x31_1)) (ji13)) % 256]) (Go.bits .and .i64 (Go.bits .or .i64 (wrap64 (x9_1 * 64)) (rd t190 x31_1)) (wrap64 ((shl .i64 1 (ji13)) - 1))) ji13 t190 (t190.length : Int) (wrap64 (x31_1 + 1))) else (none)) else (none)) = some (r1, r2, r3) := by (rw [hji13] at H; exact H)
               have hji13w : (IntKind.i64.wrap ((wrap64 (x10_1 + 6)) - 8)) = ji13 := (i64_w _).trans hji13
               by_cases c14 : 0 ≤ (ji13)
               · rw [if_pos c14] at H
                 have c14b0 := eq_true c14
                 have c14b1 : decide (0 ≤ (ji13)) = true := decide_eq_true c14
                 clear c14
                 obtain ⟨ji15, hji15⟩ : ∃ j_ : Int, (shr .i64 (Go.bits .or .i64 (wrap64 (x9_1 * 64)) (rd t190 x31_1)) (ji13)) = j_ := ⟨_, rfl⟩
                 replace H : (if x8_1.length < 140737488355328 then (digest_FromBase64.l0 k1 a0 (x8_1 ++ [(ji15) % 256]) (Go.bits .and .i64 (Go.bits .or .i64 (wrap64 (x9_1 * 64)) (rd t190 x31_1)) (wrap64 ((shl .i64 1 (ji13)) - 1))) ji13 t190 (t190.length : Int) (wrap64 (x31_1 + 1))) else (none)) = some (r1, r2, r3) := by (rw [hji15] at H; exact H)
                 have hji15_ : ((Go.bits .or .i64 (wrap64 (x9_1 * 64)) (rd t190 x31_1)) / 2 ^ min (ji13).toNat 64) = ji15 := hji15
                 have hji15z : (ji13) ≤ 64 → ((Go.bits .or .i64 (wrap64 (x9_1 * 64)) (rd t190 x31_1)) / 2 ^ (ji13).toNat) = ji15 := shr_small hji15
                 by_cases c16 : x8_1.length < 140737488355328
                 · rw [if_pos c16] at H
                   have LMc16 := Aside0.mk c16
                   clear c16
                   obtain ⟨y196, hy196⟩ : ∃ y_ : List Int, y_ = (x8_1 ++ [(ji15) % 256]) := ⟨_, rfl⟩
                   replace H : (digest_FromBase64.l0 k1 a0 y196 (Go.bits .and .i64 (Go.bits .or .i64 (wrap64 (x9_1 * 64)) (rd t190 x31_1)) (wrap64 ((shl .i64 1 (ji13)) - 1))) ji13 t190 (t190.length : Int) (wrap64 (x31_1 + 1))) = some (r1, r2, r3) := by (rw [hy196]; with_reducible exact H)
                   have Ny196 := Aside0.mk hy196
                   clear hy196
                   have c17b0 := eq_true (of_decide_eq_true (by assumption) : 0 ≤ (ji13))
                   obtain ⟨ji18, hji18⟩ : ∃ j_ : Int, (shl .i64 1 (ji13)) = j_ := ⟨_, rfl⟩
                   replace H : (digest_FromBase64.l0 k1 a0 y196 (Go.bits .and .i64 (Go.bits .or .i64 (wrap64 (x9_1 * 64)) (rd t190 x31_1)) (wrap64 ((ji18) - 1))) ji13 t190 (t190.length : Int) (wrap64 (x31_1 + 1))) = some (r1, r2, r3) := by (rw [hji18] at H; exact H)
                   have hji18_ : (IntKind.i64.wrap (1 * 2 ^ min (ji13).toNat 64)) = ji18 := hji18
                   have hji18z : (ji13) ≤ 64 → (IntKind.i64.wrap (1 * 2 ^ (ji13).toNat)) = ji18 := shl_small hji18
                   have hji18u : (IntKind.i64.wrap (2 ^ min (ji13).toNat 64)) = ji18 := by have h_ := hji18_; rw [Int.one_mul] at h_; exact h_
                   have hji18v : (ji13) ≤ 64 → (IntKind.i64.wrap (2 ^ (ji13).toNat)) = ji18 := fun hle_ => by have h_ := hji18z hle_; rw [Int.one_mul] at h_; exact h_
                   have hji18y : (wrap64 (1 * 2 ^ min (ji13).toNat 64)) = ji18 := (i64_w _).symm.trans hji18_
                   have hji18x : (ji13) ≤ 64 → (wrap64 (1 * 2 ^ (ji13).toNat)) = ji18 := fun h_ => (i64_w _).symm.trans (hji18z h_)
                   have H' := Aside0.mk H
                   clear H
                   have p195 : 0 ≤ (x31_1 : Int) := of_decide_eq_true (by assumption)
                   have q195 : x31_1 < (t190.length : Int) := of_decide_eq_true (by assumption)
                   obtain ⟨ad195, e195, hx195_0⟩ := Kd.at_int (Kd.R_reads' HO_16.out).2.2 x31_1 p195 q195
                   cases e195
                   replace p195 := eq_true p195
                   replace q195 := eq_true q195
                   go_wp2_with (first | ((with_reducible refine gate_builtin (b := .append) (xs := #[.tmp 45, .tmp 50]) rfl ?_); at_builtin; refine Kd.R_append (Kd.int .u8) (w0 := w) w.heap.size rfl (.tmp 45) (.tmp 50) 79 5 (.int .u8 0) 1 rfl Tryz.underlying79 info5 rfl (by decide) (by omega) u8 x8_1 ((ji15) % 256) [.int .u8 ((ji15) % 256)] (fun _ => True) (fun _ => False) rfl rfl ?aP (fun _ hk => hk.elim) ?aF ?aO ?aB ?aS ?aL ?_; (case aP => exact rfl); (case aB => exact HB.out); (case aF => exact (fun _ _ => trivial)); (case aO => exact HO_8.out); (case aS => exact (below_size HB.out)); (case aL => have := LMc16.out; omega); intro v197 w19 ho hb hg hat; rw [← Ny196.out] at ho; have n0_ := Aside0.mk (Kd.R_over' HO_16.out (Kd.R_typed HO_8.out) (by decide) hg); have n1_ := Aside0.mk hb; have n2_ := Aside0.mk ho; clear HO_16 HB HO_8; have HO_16 := n0_; have HB := n1_; have HO198 := n2_; clear n0_ n1_ n2_; clear ho hb hg hat))
                   go_roundg k1
                   case measure => have := HK1.out; omega
                   case rel => exact ⟨(y196), (Go.bits .and .i64 (Go.bits .or .i64 (wrap64 (x9_1 * 64)) (rd t190 x31_1)) (wrap64 ((ji18) - 1))), (ji13), (wrap64 (x31_1 + 1)), rfl, rfl, rfl, H', ⟨by have := HK1.out; omega⟩, ⟨HO198.out⟩, ⟨HO_16.out⟩, ⟨HB.out⟩⟩
                 · rw [if_neg c16] at H
                   exact absurd H (by simp)
               · rw [if_neg c14] at H
                 exact absurd H (by simp)
             · rw [if_neg c12] at H
               have c12b0 : decide (8 ≤ (wrap64 (x10_1 + 6))) = false := decide_eq_false c12
               clear c12
               have H' := Aside0.mk H
               clear H
               have p195 : 0 ≤ (x31_1 : Int) := of_decide_eq_true (by assumption)
               have q195 : x31_1 < (t190.length : Int) := of_decide_eq_true (by assumption)
               obtain ⟨ad195, e195, hx195_0⟩ := Kd.at_int (Kd.R_reads' HO_16.out).2.2 x31_1 p195 q195
               cases e195
               replace p195 := eq_true p195
               replace q195 := eq_true q195
               go_wp2
               go_roundg k1
               case measure => have := HK1.out; omega
               case rel => exact ⟨(x8_1), (Go.bits .or .i64 (wrap64 (x9_1 * 64)) (rd t190 x31_1)), (wrap64 (x10_1 + 6)), (wrap64 (x31_1 + 1)), rfl, rfl, rfl, H', ⟨by have := HK1.out; omega⟩, ⟨HO_8.out⟩, ⟨HO_16.out⟩, ⟨HB.out⟩⟩
           · rw [if_neg c11] at H
             exact absurd H (by simp)
         · rw [if_neg c10] at H
           exact absurd H (by simp)
       · rw [if_neg c9] at H
         have c9b0 : decide (x31_1 < (t190.length : Int)) = false := decide_eq_false c9
         clear c9
         by_cases c20 : x9_1 = 0
         · rw [if_pos c20] at H
           have c20b0 : (x9_1 == 0) = true := beq_iff_eq.mpr c20
           have c20b1 : (x9_1 != 0) = false := bne_eq_false_iff_eq.mpr c20
           clear c20
           simp only [Option.some.injEq, Prod.mk.injEq] at H
           obtain ⟨rfl, rfl, rfl⟩ := H
           go_wp2
           go_ret3
           exact ⟨_, rfl, by ((with_reducible repeat (first | apply Kd.R_alloc  | apply Kd.R_drewN  | apply Kd.R_drew)); exact HO_8.out), by (with_reducible exact HB.out)⟩
         · rw [if_neg c20] at H
           have c20b0 : (x9_1 == 0) = false := beq_eq_false_iff_ne.mpr c20
           have c20b1 : (x9_1 != 0) = true := bne_iff_ne.mpr c20
           simp only [Option.some.injEq, Prod.mk.injEq] at H
           obtain ⟨rfl, rfl, rfl⟩ := H
           go_wp2
           go_ret3
           exact ⟨_, rfl, by (exact Kd.R_nil _ _ _ _ _), by (with_reducible exact HB.out)⟩
 · rw [if_neg c3] at H
   have c3b0 : (t191 == 0) = false := beq_eq_false_iff_ne.mpr c3
   have c3b1 : (t191 != 0) = true := bne_iff_ne.mpr c3
   simp only [Option.some.injEq, Prod.mk.injEq] at H
   obtain ⟨rfl, rfl, rfl⟩ := H
   go_enter Tryz.func99, Tryz.ntmps99
   go_wp2_with (first | ((with_reducible refine gate_callee (f := 133) rfl ?_); refine goesL_ (some 15) rfl rfl Tryz.func133 (by kernel_rfl) rfl #[.string (⟨#[65, 66, 67, 68, 69, 70, 71, 72, 73, 74, 75, 76, 77, 78, 79, 80, 81, 82, 83, 84, 85, 86, 87, 88, 89, 90, 97, 98, 99, 100, 101, 102, 103, 104, 105, 106, 107, 108, 109, 110, 111, 112, 113, 114, 115, 116, 117, 118, 119, 120, 121, 122, 48, 49, 50, 51, 52, 53, 54, 55, 56, 57, 45, 95]⟩ : ByteArray), .string a0] rfl (by ((try simp only [List.map_toArray, List.map_cons, List.map_nil]); (rfl))) ?_; (with_reducible refine (digest_values.calls k (⟨#[65, 66, 67, 68, 69, 70, 71, 72, 73, 74, 75, 76, 77, 78, 79, 80, 81, 82, 83, 84, 85, 86, 87, 88, 89, 90, 97, 98, 99, 100, 101, 102, 103, 104, 105, 106, 107, 108, 109, 110, 111, 112, 113, 114, 115, 116, 117, 118, 119, 120, 121, 122, 48, 49, 50, 51, 52, 53, 54, 55, 56, 57, 45, 95]⟩ : ByteArray) a0 t190 t191 t192 _ A2.out).mono ?_); rintro e w21 ⟨v193, rfl, ho0, hb⟩; refine ⟨_, rfl, ?_⟩; have HO194 := Aside0.mk (Kd.R_lower ho0 (below_size HB.out)); replace HB := Aside0.mk (below_step HB.out hb); clear hb ho0))
   go_ret3
   exact ⟨_, rfl, by (exact Kd.R_nil _ _ _ _ _), by (with_reducible exact HB.out)⟩
end Go.Proofs.YtmimipgmhgalaaaGreatDoor.PAll
end
section
namespace Go.Proofs.YtmimipgmhgalaaaGreatDoor.PAll
open Go.RowKit Go.Proofs.YtmimipgmhgalaaaGreatDoorW.PrintWords Go.Shelf
set_option linter.unusedVariables false
set_option linter.unusedSimpArgs false
def repL (x y : UInt8) (l : List UInt8) : List UInt8 := l.map fun c => if c = x then y else c
theorem repL_none (x y : UInt8) (l : List UInt8) (h : x ∉ l) : repL x y l = l := by
  unfold repL
  conv => rhs; rw [← List.map_id l]
  apply List.map_congr_left
  intro c hc
  have hne : c ≠ x := fun e => h (by rw [← e]; exact hc)
  show (if c = x then y else c) = c
  rw [if_neg hne]
theorem repL_same (x : UInt8) (l : List UInt8) : repL x x l = l := by
  unfold repL
  conv => rhs; rw [← List.map_id l]
  apply List.map_congr_left
  intro c _
  by_cases h : c = x
  · rw [if_pos h]; exact h.symm
  · rw [if_neg h]; rfl
theorem index_step (x y : UInt8) : ∀ (l : List UInt8), 0 < l.count x → ∃ j : Nat, Lib.index l [x] = (j : Int) ∧ j + 1 ≤ l.length ∧ l.count x = (l.drop (j + 1)).count x + 1 ∧ repL x y l = l.take j ++ [y] ++ repL x y (l.drop (j + 1))
  | [], h => by simp at h
  | c :: r, h => by
    rw [Lib.index_one]
    by_cases e : c = x
    · subst e
      exact ⟨0, by simp [Lib.indexByte], by simp, by simp, by simp [repL]⟩
    · rw [List.count_cons_of_ne e] at h
      obtain ⟨j, h1, h2, h3, h4⟩ := index_step x y r h
      rw [Lib.index_one] at h1
      refine ⟨j + 1, ?_, by simpa using h2, by rw [List.count_cons_of_ne e, h3]; rfl, ?_⟩
      · simp [Lib.indexByte, e, h1] <;> omega
      · have e2 : repL x y (c :: r) = c :: repL x y r := by unfold repL; rw [List.map_cons, if_neg e]
        rw [e2, h4]; rfl
theorem count_call (s : ByteArray) (c : UInt8) (w : World) : Calls Tryz.prog 115 #[.string s, .string ⟨#[c]⟩] w fun e w' => e = .returned (.int .i64 (s.data.toList.count c : Nat)) ∧ w' = w := by
  refine (Tryz.strings_Count_one s c w).mono fun e w' ⟨he, hw⟩ => ⟨?_, hw⟩
  rw [he]
  rfl
theorem count_notin (x : UInt8) (l : List UInt8) (h : l.count x = 0) : x ∉ l := fun hm => by have := List.count_pos_iff.2 hm; omega
set_option maxHeartbeats 4000000 in
set_option maxRecDepth 100000 in
theorem replace_one (s : ByteArray) (x y : UInt8) (w : World) (hs : s.size < 4294967281) :
    Calls Tryz.prog 132 #[.string s, .string ⟨#[x]⟩, .string ⟨#[y]⟩, .int .i64 (-1)] w fun e w' => e = .returned (.string ⟨(repL x y s.data.toList).toArray⟩) ∧ Below w.heap.size w w' := by
  have hsl : s.data.toList.length = s.size := by rw [Array.length_toList]; rfl
  by_cases hxy : x = y
  · subst hxy
    have hbeq : (x == x) = true := beq_self_eq_true _
    rw [repL_same]
    go_enter Tryz.func132, Tryz.ntmps132
    go_wp2
    go_ret
    exact ⟨by cases s; rfl, Below.refl _ _⟩
  · have hbeq : (x == y) = false := beq_eq_false_iff_ne.2 hxy
    obtain ⟨K, hK⟩ : ∃ K, s.data.toList.count x = K := ⟨_, rfl⟩
    have hC := count_call s x w
    rw [hK] at hC
    have hKl : K ≤ s.size := by rw [← hK, ← hsl]; exact List.count_le_length
    by_cases hK0 : K = 0
    · subst hK0
      have hr := repL_none x y _ (count_notin x _ hK)
      have HR := Lib.hid hr
      clear hr
      go_enter Tryz.func132, Tryz.ntmps132
      go_wp2_with (go_at_call 115; refine hC.mono ?_; rintro e w' ⟨rfl, rfl⟩)
      go_ret
      exact ⟨by rw [HR.out]; cases s; rfl, Below.refl _ _⟩
    · have hKz : ((K : Int) == 0) = false := beq_eq_false_iff_ne.2 (by omega)
      have hx1 : (⟨#[x]⟩ : ByteArray).size = 1 := rfl
      have hy1 : (⟨#[y]⟩ : ByteArray).size = 1 := rfl
      have HK := Lib.hid hK
      clear hK
      go_enter Tryz.func132, Tryz.ntmps132
      go_wp2_with (go_at_call 115; refine hC.mono ?_; rintro e w' ⟨rfl, rfl⟩)
      refine (Tryz.Builder_Grow_fresh w'.heap.size w'.heap.size s.size _ (Nat.le_refl _) (heap_alloc_new w' _) (by simp) (by omega)).mono ?_
      rintro e w1 ⟨rfl, hb0, hb1⟩
      have H1 := Lib.hid (Or.inr hb0 : Lib.IsBuilder 88 5 w'.heap.size w'.heap.size (Lib.byteCells []) w1)
      have Hb1 := Lib.hid (((Below.refl w'.heap.size w').alloc (Nat.le_refl _) _).trans hb1)
      clear hb0 hb1
      go_wp2_with fail
      go_loopw [11, 12, 53] (fun v11 _ v53 wx => ∃ (i start : Nat) (acc : List UInt8), v53 = .int .i64 (i : Int) ∧ v11 = .int .i64 (start : Int) ∧ i ≤ K ∧ start ≤ s.size ∧ (s.data.toList.drop start).count x + i = K ∧ acc.length = start ∧ acc ++ repL x y (s.data.toList.drop start) = repL x y s.data.toList ∧
        Lib.IsBuilder 88 5 w'.heap.size w'.heap.size (Lib.byteCells acc) wx ∧ Below w'.heap.size w' wx) (fun _ _ v53 _ => K - (intOf v53).toNat)
      case atStart => exact ⟨0, 0, [], rfl, rfl, Nat.zero_le _, Nat.zero_le _, by rw [List.drop_zero, HK.out]; rfl, rfl, by rw [List.drop_zero, List.nil_append], H1.out, Hb1.out⟩
      case round =>
        clear H1 Hb1
        obtain ⟨i, start, acc, rfl, rfl, hi, hst, hcn, hal, hac, hB, hW⟩ := hrel
        have hBw : w'.heap.size ≤ wr.heap.size := hW.size
        have c1 : (0 : Int) ≤ (start : Int) := by omega
        have c2 : (start : Int) ≤ (s.size : Int) := by omega
        have hcl : (Lib.byteCells acc).length = start := by rw [Lib.byteCells_length]; exact hal
        by_cases hit : i < K
        · obtain ⟨j, hj, hjl, hcj, hrj⟩ := index_step x y (s.data.toList.drop start) (by omega)
          rw [List.length_drop, hsl] at hjl
          rw [List.drop_drop] at hcj hrj
          have c3 : (start : Int) ≤ (start : Int) + (j : Int) := by omega
          have c4 : (start : Int) + (j : Int) ≤ (s.size : Int) := by omega
          have hnext : Lib.byteCells acc ++ Lib.strCells (s.extract start (start + j)) ++ Lib.strCells ⟨#[y]⟩ = Lib.byteCells (acc ++ (s.data.toList.drop start).take j ++ [y]) := by
            rw [Lib.strCells_eq, Lib.strCells_eq, Lib.extract_data, Nat.add_sub_cancel_left, ← Lib.byteCells_append, ← Lib.byteCells_append]
          have hlen2 : (acc ++ (s.data.toList.drop start).take j ++ [y]).length = start + (j + 1) := by
            rw [List.length_append, List.length_append, List.length_take, List.length_drop, hsl, hal]; simp; omega
          have hac2 : (acc ++ (s.data.toList.drop start).take j ++ [y]) ++ repL x y (s.data.toList.drop (start + (j + 1))) = repL x y s.data.toList := by
            rw [← hac, hrj]; simp only [List.append_assoc]
          have hix : Lib.indexB (s.extract start s.size) ⟨#[x]⟩ = (j : Int) := by
            show Lib.index (s.extract start s.size).data.toList [x] = _
            rw [Lib.extract_to_end]; exact hj
          have hes : (s.extract start (start + j)).size = j := by rw [ByteArray.size_extract]; omega
          have H1 := Lib.hid hB; have H2 := Lib.hid hW; have H3 := Lib.hid hnext; have H4 := Lib.hid hac2; have H5 := Lib.hid hcj; have H6 := Lib.hid hcn; have H7 := Lib.hid hlen2; have H8 := Lib.hid hcl; have H9 := Lib.hid hes
          clear hB hW hnext hac2 hcj hcn hlen2 hcl hac hj hrj hal hes
          go_wp2_with (first | (go_at_call 116; refine (split_index _ x _).mono ?_; rintro e w'' ⟨rfl, hw⟩; rw [hw, hix]))
          refine (Bld.writeString w'.heap.size w'.heap.size _ (s.extract start (start + j)) wr H1.out (by rw [H8.out, H9.out]; omega) hBw).mono ?_
          rintro e w3 ⟨rfl, h3, hb3, _⟩
          have hBw3 : w'.heap.size ≤ w3.heap.size := Nat.le_trans hBw hb3.size
          have H10 := Lib.hid h3
          have H11 := Lib.hid hb3
          clear h3 hb3
          go_wp2_with fail
          refine (Bld.writeString w'.heap.size w'.heap.size _ ⟨#[y]⟩ w3 H10.out (by rw [List.length_append, H8.out, Lib.strCells_length, H9.out]; show _ + 1 ≤ _; omega) hBw3).mono ?_
          rintro e w4 ⟨rfl, h4, hb4, _⟩
          rw [H3.out] at h4
          have H12 := Lib.hid h4
          have H13 := Lib.hid ((H2.out.trans H11.out).trans hb4)
          clear h4 hb4
          go_wp2
          exact ⟨⟨i + 1, start + (j + 1), _, rfl, by congr 1, by omega, by omega, by have := H5.out; have := H6.out; omega, H7.out, H4.out, H12.out, H13.out⟩, by simp [intOf]; omega⟩
        · have hge : decide (i < K) = false := decide_eq_false hit
          have hr0 : repL x y (s.data.toList.drop start) = s.data.toList.drop start := repL_none x y _ (count_notin x _ (by omega))
          rw [hr0] at hac
          have HA := Lib.hid hac; have H1 := Lib.hid hB; have H2 := Lib.hid hW; have H8 := Lib.hid hcl
          clear hac hB hW hcl hr0 hcn hal
          go_wp2_with fail
          refine (Bld.writeString w'.heap.size w'.heap.size _ _ wr H1.out (by rw [H8.out, ByteArray.size_extract]; omega) hBw).mono ?_
          rintro e w3 ⟨rfl, h3, hb3, _⟩
          rw [Lib.strCells_eq, Lib.extract_to_end, ← Lib.byteCells_append, HA.out] at h3
          have H3 := Lib.hid h3
          have Hb3 := Lib.hid (H2.out.trans hb3)
          have hBw3 : w'.heap.size ≤ w3.heap.size := Hb3.out.size
          clear h3 hb3
          go_wp2_with fail
          refine (Tryz.Builder_String_any w'.heap.size w'.heap.size _ w3 H3.out hBw3).mono ?_
          rintro e w5 ⟨rfl, hb5⟩
          have Hb5 := Lib.hid (Hb3.out.trans hb5)
          clear hb5
          go_wp2
          go_ret
          exact ⟨rfl, Hb5.out⟩
def strings_ReplaceAll.f (a0 a1 a2 : ByteArray) : Option ByteArray := if a1.size = 1 ∧ a2.size = 1 ∧ a0.size < 4294967281 then some ⟨(repL (a1.data.toList.headD 0) (a2.data.toList.headD 0) a0.data.toList).toArray⟩ else none
set_option maxHeartbeats 1000000 in
theorem strings_ReplaceAll.calls (a0 a1 a2 : ByteArray) (r1 : ByteArray) (w : World) (h : strings_ReplaceAll.f a0 a1 a2 = some r1) :
    Calls Tryz.prog 98 #[.string a0, .string a1, .string a2] w fun e w' => e = .returned (.string r1) ∧ Below w.heap.size w w' := by
  unfold strings_ReplaceAll.f at h
  split at h
  · rename_i hh
    obtain ⟨h1, h2, hs⟩ := hh
    obtain ⟨x, rfl⟩ := Lib.one_byte a1 h1
    obtain ⟨y, rfl⟩ := Lib.one_byte a2 h2
    obtain rfl := Option.some.inj h
    have HQ := Lib.hid (replace_one a0 x y w hs)
    go_enter Tryz.func98, Tryz.ntmps98
    go_wp2_with (go_at_call 132; refine (HQ.out).mono ?_; rintro e w' ⟨rfl, hb⟩)
    go_ret
    exact ⟨rfl, hb⟩
  · cases h
end Go.Proofs.YtmimipgmhgalaaaGreatDoor.PAll
end
section
namespace Go.Proofs.YtmimipgmhgalaaaGreatDoor.PAll
open Go.RowKit Go.Proofs.YtmimipgmhgalaaaGreatDoorW.PrintWords Go.Proofs.YtmimipgmhgalaaaGreatDoorW.PrintLast Go.Proofs.YtmimipgmhgalaaaGreatDoorW.PrintMore
attribute [local go_sem] max2_int min2_int max_two min_two max_three min_three max_four min_four
set_option linter.unusedVariables false
set_option linter.unusedSimpArgs false
def client_common.j0 : Nat → ByteArray → Bool → Option (ByteArray × Bool)
 | 0, _, _ => none
 | k + 1, x0, x15 => if x15 = true then (some ((⟨#[]⟩ : ByteArray), false)) else ((strings_TrimSuffix.f x0 (⟨#[61]⟩ : ByteArray)).bind fun t200 => ((strings_TrimSuffix.f t200 (⟨#[61]⟩ : ByteArray)).bind fun t201 => ((strings_ReplaceAll.f t201 (⟨#[43]⟩ : ByteArray) (⟨#[45]⟩ : ByteArray)).bind fun t202 => ((strings_ReplaceAll.f t202 (⟨#[47]⟩ : ByteArray) (⟨#[95]⟩ : ByteArray)).bind fun t203 => ((digest_FromBase64.f k t203).bind fun bt204 => (if bt204.2.1 = 0 then (some (strOfNums bt204.1, ((wrap64 ((wrap64 (Int.tdiv (wrap64 ((t203.size : Int) + 3)) 4)) * 4)) == (x0.size : Int)))) else (some (strOfNums bt204.1, false))))))))
def client_common.f (k : Nat) (a0 : ByteArray) : Option (ByteArray × Bool) := if ((a0.size : Int) % 4) = 0 then ((strings_ContainsAny.f a0 (⟨#[45, 95]⟩ : ByteArray)).bind fun t199 => (client_common.j0 k a0 t199)) else (client_common.j0 k a0 true)
set_option maxHeartbeats 8000000 in
set_option maxRecDepth 100000 in
theorem client_common.calls (k : Nat) (a0 : ByteArray) (r1 : ByteArray) (r2 : Bool) (w : World) (h : client_common.f k a0 = some (r1, r2)) :
 Calls Tryz.prog 63 #[.string a0] w fun e w' => e = .returned (.tuple #[.string r1, .bool r2]) ∧ Below w.heap.size w w' := by
 have HB := Aside0.mk (Below.refl w.heap.size w)
 have H : (if ((a0.size : Int) % 4) = 0 then ((strings_ContainsAny.f a0 (⟨#[45, 95]⟩ : ByteArray)).bind fun t199 => (client_common.j0 k a0 t199)) else (client_common.j0 k a0 true)) = some (r1, r2) := h
 clear h
 have HC2 := Aside0.mk H
 clear H
 go_enter Tryz.func63, Tryz.ntmps63
 go_upto_region 1 with (fail)
 go_cut [15] (fun v15 wc => ∃ (kq : Nat) (x15_1 : Bool), v15 = .bool x15_1 ∧ Aside0 (client_common.j0 kq a0 x15_1 = some (r1, r2)) ∧ Aside0 (kq ≤ k) ∧ Aside0 (Below w.heap.size w wc))
 case first =>
  have H := HC2.out
  clear HC2
  by_cases c3 : ((a0.size : Int) % 4) = 0
  · rw [if_pos c3] at H
    have c3b0 : (((a0.size : Int) % 4) == 0) = true := beq_iff_eq.mpr c3
    have c3b1 : (((a0.size : Int) % 4) != 0) = false := bne_eq_false_iff_eq.mpr c3
    clear c3
    replace H := Option.bind_eq_some_iff.mp H
    obtain ⟨t199, A40, H⟩ := H
    replace H : (client_common.j0 k a0 t199) = some (r1, r2) := H
    have A4 := Aside0.mk A40
    clear A40
    have H' := Aside0.mk H
    clear H
    go_wp2_with (first | (go_at_call 96; (with_reducible refine (strings_ContainsAny.calls a0 (⟨#[45, 95]⟩ : ByteArray) t199 _ A4.out).mono ?_); rintro e w5 ⟨rfl, hb⟩; replace HB := Aside0.mk (below_step HB.out hb); clear hb))
    go_meet
    case rel => exact ⟨_, (t199), rfl, H', ⟨by (omega)⟩, ⟨HB.out⟩⟩
  · rw [if_neg c3] at H
    have c3b0 : (((a0.size : Int) % 4) == 0) = false := beq_eq_false_iff_ne.mpr c3
    have c3b1 : (((a0.size : Int) % 4) != 0) = true := bne_iff_ne.mpr c3
    have H' := Aside0.mk H
    clear H
    go_wp2
    go_meet
    case rel => exact ⟨_, (true), rfl, H', ⟨by (omega)⟩, ⟨HB.out⟩⟩
 case rest =>
  clear HC2
  obtain ⟨kq, x15_1, rfl, HA, HJ1, HB⟩ := hcut
  cases kq with
  | zero => exact absurd HA.out (by simp [client_common.j0])
  | succ kj1 =>
   have H := HA.out
   clear HA
   simp only [client_common.j0] at H
   by_cases c6 : x15_1 = true
   · subst c6
     have H1 : (some ((⟨#[]⟩ : ByteArray), false)) = some (r1, r2) := by rw [if_pos rfl] at H; exact H
     clear H
     have H := H1
     clear H1
     simp only [Option.some.injEq, Prod.mk.injEq] at H
     obtain ⟨rfl, rfl⟩ := H
     go_wp2
     go_ret2
     exact ⟨by (rfl), by (with_reducible exact HB.out)⟩
   · replace c6 := Bool.eq_false_iff.mpr c6
     subst c6
     have H1 : ((strings_TrimSuffix.f a0 (⟨#[61]⟩ : ByteArray)).bind fun t200 => ((strings_TrimSuffix.f t200 (⟨#[61]⟩ : ByteArray)).bind fun t201 => ((strings_ReplaceAll.f t201 (⟨#[43]⟩ : ByteArray) (⟨#[45]⟩ : ByteArray)).bind fun t202 => ((strings_ReplaceAll.f t202 (⟨#[47]⟩ : ByteArray) (⟨#[95]⟩ : ByteArray)).bind fun t203 => ((digest_FromBase64.f kj1 t203).bind fun bt204 => (if bt204.2.1 = 0 then (some (strOfNums bt204.1, ((wrap64 ((wrap64 (Int.tdiv (wrap64 ((t203.size : Int) + 3)) 4)) * 4)) == (a0.size : Int)))) else (some (strOfNums bt204.1, false)))))))) = some (r1, r2) := by rw [if_neg (show ¬ (false = true) by decide)] at H; exact H
     clear H
     have H := H1
     clear H1
     replace H := Option.bind_eq_some_iff.mp H
     obtain ⟨t200, A70, H⟩ := H
     replace H : ((strings_TrimSuffix.f t200 (⟨#[61]⟩ : ByteArray)).bind fun t201 => ((strings_ReplaceAll.f t201 (⟨#[43]⟩ : ByteArray) (⟨#[45]⟩ : ByteArray)).bind fun t202 => ((strings_ReplaceAll.f t202 (⟨#[47]⟩ : ByteArray) (⟨#[95]⟩ : ByteArray)).bind fun t203 => ((digest_FromBase64.f kj1 t203).bind fun bt204 => (if bt204.2.1 = 0 then (some (strOfNums bt204.1, ((wrap64 ((wrap64 (Int.tdiv (wrap64 ((t203.size : Int) + 3)) 4)) * 4)) == (a0.size : Int)))) else (some (strOfNums bt204.1, false))))))) = some (r1, r2) := H
     have A7 := Aside0.mk A70
     clear A70
     replace H := Option.bind_eq_some_iff.mp H
     obtain ⟨t201, A80, H⟩ := H
     replace H : ((strings_ReplaceAll.f t201 (⟨#[43]⟩ : ByteArray) (⟨#[45]⟩ : ByteArray)).bind fun t202 => ((strings_ReplaceAll.f t202 (⟨#[47]⟩ : ByteArray) (⟨#[95]⟩ : ByteArray)).bind fun t203 => ((digest_FromBase64.f kj1 t203).bind fun bt204 => (if bt204.2.1 = 0 then (some (strOfNums bt204.1, ((wrap64 ((wrap64 (Int.tdiv (wrap64 ((t203.size : Int) + 3)) 4)) * 4)) == (a0.size : Int)))) else (some (strOfNums bt204.1, false)))))) = some (r1, r2) := H
     have A8 := Aside0.mk A80
     clear A80
     replace H := Option.bind_eq_some_iff.mp H
     obtain ⟨t202, A90, H⟩ := H
     replace H : ((strings_ReplaceAll.f t202 (⟨#[47]⟩ : ByteArray) (⟨#[95]⟩ : ByteArray)).bind fun t203 => ((digest_FromBase64.f kj1 t203).bind fun bt204 => (if bt204.2.1 = 0 then (some (strOfNums bt204.1, ((wrap64 ((wrap64 (Int.tdiv (wrap64 ((t203.size : Int) + 3)) 4)) * 4)) == (a0.size : Int)))) else (some (strOfNums bt204.1, false))))) = some (r1, r2) := H
     have A9 := Aside0.mk A90
     clear A90
     replace H := Option.bind_eq_some_iff.mp H
     obtain ⟨t203, A100, H⟩ := H
     replace H : ((digest_FromBase64.f kj1 t203).bind fun bt204 => (if bt204.2.1 = 0 then (some (strOfNums bt204.1, ((wrap64 ((wrap64 (Int.tdiv (wrap64 ((t203.size : Int) + 3)) 4)) * 4)) == (a0.size : Int)))) else (some (strOfNums bt204.1, false)))) = some (r1, r2) := H
     have A10 := Aside0.mk A100
     clear A100
     replace H := Option.bind_eq_some_iff.mp H
     obtain ⟨⟨t204, t205, t206⟩, A110, H⟩ := H
     replace H : (if t205 = 0 then (some (strOfNums t204, ((wrap64 ((wrap64 (Int.tdiv (wrap64 ((t203.size : Int) + 3)) 4)) * 4)) == (a0.size : Int)))) else (some (strOfNums t204, false))) = some (r1, r2) := H
     have A11 := Aside0.mk A110
     clear A110
     by_cases c12 : t205 = 0
     · rw [if_pos c12] at H
       have c12b0 : (t205 == 0) = true := beq_iff_eq.mpr c12
       have c12b1 : (t205 != 0) = false := bne_eq_false_iff_eq.mpr c12
       clear c12
       simp only [Option.some.injEq, Prod.mk.injEq] at H
       obtain ⟨rfl, rfl⟩ := H
       go_wp2_with (first | ((with_reducible refine gate_callee (f := 97) rfl ?_); refine goesL_ (some 17) rfl rfl Tryz.func97 (by kernel_rfl) rfl #[.string a0, .string (⟨#[61]⟩ : ByteArray)] rfl (by ((try simp only [List.map_toArray, List.map_cons, List.map_nil]); (rfl))) ?_; (with_reducible refine (strings_TrimSuffix.calls a0 (⟨#[61]⟩ : ByteArray) t200 _ A7.out).mono ?_); rintro e w13 ⟨rfl, hb⟩; refine ⟨_, rfl, ?_⟩; replace HB := Aside0.mk (below_step HB.out hb); clear hb) | ((with_reducible refine gate_callee (f := 97) rfl ?_); refine goesL_ (some 18) rfl rfl Tryz.func97 (by kernel_rfl) rfl #[.string t200, .string (⟨#[61]⟩ : ByteArray)] rfl (by ((try simp only [List.map_toArray, List.map_cons, List.map_nil]); (rfl))) ?_; (with_reducible refine (strings_TrimSuffix.calls t200 (⟨#[61]⟩ : ByteArray) t201 _ A8.out).mono ?_); rintro e w14 ⟨rfl, hb⟩; refine ⟨_, rfl, ?_⟩; replace HB := Aside0.mk (below_step HB.out hb); clear hb) | ((with_reducible refine gate_callee (f := 98) rfl ?_); refine goesL_ (some 20) rfl rfl Tryz.func98 (by kernel_rfl) rfl #[.string t201, .string (⟨#[43]⟩ : ByteArray), .string (⟨#[45]⟩ : ByteArray)] rfl (by ((try simp only [List.map_toArray, List.map_cons, List.map_nil]); (rfl))) ?_; (with_reducible refine (strings_ReplaceAll.calls t201 (⟨#[43]⟩ : ByteArray) (⟨#[45]⟩ : ByteArray) t202 _ A9.out).mono ?_); rintro e w15 ⟨rfl, hb⟩; refine ⟨_, rfl, ?_⟩; replace HB := Aside0.mk (below_step HB.out hb); clear hb) | ((with_reducible refine gate_callee (f := 98) rfl ?_); refine goesL_ (some 21) rfl rfl Tryz.func98 (by kernel_rfl) rfl #[.string t202, .string (⟨#[47]⟩ : ByteArray), .string (⟨#[95]⟩ : ByteArray)] rfl (by ((try simp only [List.map_toArray, List.map_cons, List.map_nil]); (rfl))) ?_; (with_reducible refine (strings_ReplaceAll.calls t202 (⟨#[47]⟩ : ByteArray) (⟨#[95]⟩ : ByteArray) t203 _ A10.out).mono ?_); rintro e w16 ⟨rfl, hb⟩; refine ⟨_, rfl, ?_⟩; replace HB := Aside0.mk (below_step HB.out hb); clear hb) | ((with_reducible refine gate_callee (f := 99) rfl ?_); refine goesL_ (some 24) rfl rfl Tryz.func99 (by kernel_rfl) rfl #[.string t203] rfl (by ((try simp only [List.map_toArray, List.map_cons, List.map_nil]); (rfl))) ?_; (with_reducible refine (digest_FromBase64.calls kj1 t203 t204 t205 t206 _ A11.out).mono ?_); rintro e w17 ⟨v207, rfl, ho0, hb⟩; refine ⟨_, rfl, ?_⟩; have HO208 := Aside0.mk (Kd.R_lower ho0 (below_size HB.out)); replace HB := Aside0.mk (below_step HB.out hb); clear hb ho0; have hcv18 := own_string (P := Tryz.prog) Tryz.underlying79 Tryz.underlying5 Tryz.underlying9 (Kd.own_of_R HO208.out)))
       go_ret2
       exact ⟨by (rfl), by (with_reducible exact HB.out)⟩
     · rw [if_neg c12] at H
       have c12b0 : (t205 == 0) = false := beq_eq_false_iff_ne.mpr c12
       have c12b1 : (t205 != 0) = true := bne_iff_ne.mpr c12
       simp only [Option.some.injEq, Prod.mk.injEq] at H
       obtain ⟨rfl, rfl⟩ := H
       go_wp2_with (first | ((with_reducible refine gate_callee (f := 97) rfl ?_); refine goesL_ (some 17) rfl rfl Tryz.func97 (by kernel_rfl) rfl #[.string a0, .string (⟨#[61]⟩ : ByteArray)] rfl (by ((try simp only [List.map_toArray, List.map_cons, List.map_nil]); (rfl))) ?_; (with_reducible refine (strings_TrimSuffix.calls a0 (⟨#[61]⟩ : ByteArray) t200 _ A7.out).mono ?_); rintro e w19 ⟨rfl, hb⟩; refine ⟨_, rfl, ?_⟩; replace HB := Aside0.mk (below_step HB.out hb); clear hb) | ((with_reducible refine gate_callee (f := 97) rfl ?_); refine goesL_ (some 18) rfl rfl Tryz.func97 (by kernel_rfl) rfl #[.string t200, .string (⟨#[61]⟩ : ByteArray)] rfl (by ((try simp only [List.map_toArray, List.map_cons, List.map_nil]); (rfl))) ?_; (with_reducible refine (strings_TrimSuffix.calls t200 (⟨#[61]⟩ : ByteArray) t201 _ A8.out).mono ?_); rintro e w20 ⟨rfl, hb⟩; refine ⟨_, rfl, ?_⟩; replace HB := Aside0.mk (below_step HB.out hb); clear hb) | ((with_reducible refine gate_callee (f := 98) rfl ?_); refine goesL_ (some 20) rfl rfl Tryz.func98 (by kernel_rfl) rfl #[.string t201, .string (⟨#[43]⟩ : ByteArray), .string (⟨#[45]⟩ : ByteArray)] rfl (by ((try simp only [List.map_toArray, List.map_cons, List.map_nil]); (rfl))) ?_; (with_reducible refine (strings_ReplaceAll.calls t201 (⟨#[43]⟩ : ByteArray) (⟨#[45]⟩ : ByteArray) t202 _ A9.out).mono ?_); rintro e w21 ⟨rfl, hb⟩; refine ⟨_, rfl, ?_⟩; replace HB := Aside0.mk (below_step HB.out hb); clear hb) | ((with_reducible refine gate_callee (f := 98) rfl ?_); refine goesL_ (some 21) rfl rfl Tryz.func98 (by kernel_rfl) rfl #[.string t202, .string (⟨#[47]⟩ : ByteArray), .string (⟨#[95]⟩ : ByteArray)] rfl (by ((try simp only [List.map_toArray, List.map_cons, List.map_nil]); (rfl))) ?_; (with_reducible refine (strings_ReplaceAll.calls t202 (⟨#[47]⟩ : ByteArray) (⟨#[95]⟩ : ByteArray) t203 _ A10.out).mono ?_); rintro e w22 ⟨rfl, hb⟩; refine ⟨_, rfl, ?_⟩; replace HB := Aside0.mk (below_step HB.out hb); clear hb) | ((with_reducible refine gate_callee (f := 99) rfl ?_); refine goesL_ (some 24) rfl rfl Tryz.func99 (by kernel_rfl) rfl #[.string t203] rfl (by ((try simp only [List.map_toArray, List.map_cons, List.map_nil]); (rfl))) ?_; (with_reducible refine (digest_FromBase64.calls kj1 t203 t204 t205 t206 _ A11.out).mono ?_); rintro e w23 ⟨v207, rfl, ho0, hb⟩; refine ⟨_, rfl, ?_⟩; have HO208 := Aside0.mk (Kd.R_lower ho0 (below_size HB.out)); replace HB := Aside0.mk (below_step HB.out hb); clear hb ho0; have hcv24 := own_string (P := Tryz.prog) Tryz.underlying79 Tryz.underlying5 Tryz.underlying9 (Kd.own_of_R HO208.out)))
       go_ret2
       exact ⟨by (rfl), by (with_reducible exact HB.out)⟩
def client_Basic.j0 : Nat → ByteArray → Bool → Option (ByteArray × ByteArray × Int)
 | 0, _, _ => none
 | k + 1, x0, x34 => if x34 = true then (some ((⟨#[]⟩ : ByteArray), (⟨#[]⟩ : ByteArray), 113)) else (if 5 ≤ (x0.size : Int) then ((strings_TrimLeft.f (x0.extract 5 x0.size) (⟨#[32]⟩ : ByteArray)).bind fun t210 => ((client_common.f k t210).bind fun bt211 => ((strings_Cut.f bt211.1 (⟨#[58]⟩ : ByteArray)).bind fun bt213 => ((urlform_Unescape.f bt213.1).bind fun bt216 => ((urlform_Unescape.f bt213.2.1).bind fun bt219 => (if bt211.2 = true then (if bt213.2.2 = true then (if bt216.2.1 = 0 then (if bt219.2.1 = 0 then (some (bt216.1, bt219.1, 0)) else (some ((⟨#[]⟩ : ByteArray), (⟨#[]⟩ : ByteArray), 113))) else (some ((⟨#[]⟩ : ByteArray), (⟨#[]⟩ : ByteArray), 113))) else (some ((⟨#[]⟩ : ByteArray), (⟨#[]⟩ : ByteArray), 113))) else (some ((⟨#[]⟩ : ByteArray), (⟨#[]⟩ : ByteArray), 113)))))))) else (none))
def client_Basic.f (k : Nat) (a0 : ByteArray) : Option (ByteArray × ByteArray × Int) := if (a0.size : Int) > 1024 then (client_Basic.j0 k a0 true) else (if (a0.size : Int) < 6 then (client_Basic.j0 k a0 true) else (if 0 ≤ 5 then (if 5 ≤ (a0.size : Int) then ((strings_EqualFold.f (a0.extract 0 5) (⟨#[98, 97, 115, 105, 99]⟩ : ByteArray)).bind fun t209 => (if t209 = true then (if 5 < (a0.size : Int) then (client_Basic.j0 k a0 ((bt a0 5) != 32)) else (none)) else (client_Basic.j0 k a0 true))) else (none)) else (none)))
set_option maxHeartbeats 8000000 in
set_option maxRecDepth 100000 in
theorem client_Basic.calls (k : Nat) (a0 : ByteArray) (r1 : ByteArray) (r2 : ByteArray) (r3 : Int) (w : World) (h : client_Basic.f k a0 = some (r1, r2, r3)) :
 Calls Tryz.prog 32 #[.string a0] w fun e w' => e = .returned (.tuple #[.string r1, .string r2, .int .i64 r3]) ∧ Below w.heap.size w w' := by
 have HB := Aside0.mk (Below.refl w.heap.size w)
 have H : (if (a0.size : Int) > 1024 then (client_Basic.j0 k a0 true) else (if (a0.size : Int) < 6 then (client_Basic.j0 k a0 true) else (if 0 ≤ 5 then (if 5 ≤ (a0.size : Int) then ((strings_EqualFold.f (a0.extract 0 5) (⟨#[98, 97, 115, 105, 99]⟩ : ByteArray)).bind fun t209 => (if t209 = true then (if 5 < (a0.size : Int) then (client_Basic.j0 k a0 ((bt a0 5) != 32)) else (none)) else (client_Basic.j0 k a0 true))) else (none)) else (none)))) = some (r1, r2, r3) := h
 clear h
 have HC2 := Aside0.mk H
 clear H
 go_enter Tryz.func32, Tryz.ntmps32
 go_upto_region 1 with (fail)
 go_cut [34] (fun v34 wc => ∃ (kq : Nat) (x34_1 : Bool), v34 = .bool x34_1 ∧ Aside0 (client_Basic.j0 kq a0 x34_1 = some (r1, r2, r3)) ∧ Aside0 (kq ≤ k) ∧ Aside0 (Below w.heap.size w wc))
 case first =>
  have H := HC2.out
  clear HC2
  by_cases c3 : (a0.size : Int) > 1024
  · rw [if_pos c3] at H
    have c3b0 : decide (1024 < (a0.size : Int)) = true := decide_eq_true c3
    have c3b1 : decide (1024 < a0.size) = true := decide_eq_true (by omega)
    clear c3
    have H' := Aside0.mk H
    clear H
    go_wp2
    go_meet
    case rel => exact ⟨_, (true), rfl, H', ⟨by (omega)⟩, ⟨HB.out⟩⟩
  · rw [if_neg c3] at H
    have c3b0 : decide (1024 < (a0.size : Int)) = false := decide_eq_false c3
    have c3b1 : decide (1024 < a0.size) = false := decide_eq_false (by omega)
    clear c3
    by_cases c4 : (a0.size : Int) < 6
    · rw [if_pos c4] at H
      have c4b0 : decide ((a0.size : Int) < 6) = true := decide_eq_true c4
      have c4b1 : decide (a0.size < 6) = true := decide_eq_true (by omega)
      clear c4
      have H' := Aside0.mk H
      clear H
      go_wp2
      go_meet
      case rel => exact ⟨_, (true), rfl, H', ⟨by (omega)⟩, ⟨HB.out⟩⟩
    · rw [if_neg c4] at H
      have c4b0 : decide ((a0.size : Int) < 6) = false := decide_eq_false c4
      have c4b1 : decide (a0.size < 6) = false := decide_eq_false (by omega)
      clear c4
      by_cases c5 : 0 ≤ 5
      · rw [if_pos c5] at H
        have c5b0 := eq_true c5
        have c5b1 : decide (0 ≤ 5) = true := decide_eq_true c5
        clear c5
        by_cases c6 : 5 ≤ (a0.size : Int)
        · rw [if_pos c6] at H
          have c6b0 := eq_true c6
          have c6b1 : decide (5 ≤ (a0.size : Int)) = true := decide_eq_true c6
          clear c6
          replace H := Option.bind_eq_some_iff.mp H
          obtain ⟨t209, A70, H⟩ := H
          replace H : (if t209 = true then (if 5 < (a0.size : Int) then (client_Basic.j0 k a0 ((bt a0 5) != 32)) else (none)) else (client_Basic.j0 k a0 true)) = some (r1, r2, r3) := H
          have A7 := Aside0.mk A70
          clear A70
          by_cases c8 : t209 = true
          · subst c8
            have H1 : (if 5 < (a0.size : Int) then (client_Basic.j0 k a0 ((bt a0 5) != 32)) else (none)) = some (r1, r2, r3) := by rw [if_pos rfl] at H; exact H
            clear H
            have H := H1
            clear H1
            by_cases c9 : 5 < (a0.size : Int)
            · rw [if_pos c9] at H
              have c9b0 : decide (5 < (a0.size : Int)) = true := decide_eq_true c9
              have c9b1 : decide (5 < a0.size) = true := decide_eq_true (by omega)
              clear c9
              have H' := Aside0.mk H
              clear H
              go_wp2_with (first | (go_at_call 62; (with_reducible refine (strings_EqualFold.calls (a0.extract 0 5) (⟨#[98, 97, 115, 105, 99]⟩ : ByteArray) true _ A7.out).mono ?_); rintro e w11 ⟨rfl, hb⟩; replace HB := Aside0.mk (below_step HB.out hb); clear hb; have p10 : 0 ≤ (5 : Int) := (by omega); have q10 : 5 < a0.size := (by have : (5 : Int) < (a0.size : Int) := of_decide_eq_true (by assumption); omega); have hx10 : ∀ h : 5 < a0.size, ((a0[5]'h).toNat : Int) = bt a0 5 := bt_at a0 5; clear p10; have qi10 : (5 < (a0.size : Int)) = True := eq_true (of_decide_eq_true (by assumption)); replace q10 := eq_true q10))
              go_meet
              case rel => exact ⟨_, (((bt a0 5) != 32)), rfl, H', ⟨by (omega)⟩, ⟨HB.out⟩⟩
            · rw [if_neg c9] at H
              exact absurd H (by simp)
          · replace c8 := Bool.eq_false_iff.mpr c8
            subst c8
            have H1 : (client_Basic.j0 k a0 true) = some (r1, r2, r3) := by rw [if_neg (show ¬ (false = true) by decide)] at H; exact H
            clear H
            have H := H1
            clear H1
            have H' := Aside0.mk H
            clear H
            go_wp2_with (first | (go_at_call 62; (with_reducible refine (strings_EqualFold.calls (a0.extract 0 5) (⟨#[98, 97, 115, 105, 99]⟩ : ByteArray) false _ A7.out).mono ?_); rintro e w12 ⟨rfl, hb⟩; replace HB := Aside0.mk (below_step HB.out hb); clear hb))
            go_meet
            case rel => exact ⟨_, (true), rfl, H', ⟨by (omega)⟩, ⟨HB.out⟩⟩
        · rw [if_neg c6] at H
          exact absurd H (by simp)
      · rw [if_neg c5] at H
        exact absurd H (by simp)
 case rest =>
  clear HC2
  obtain ⟨kq, x34_1, rfl, HA, HJ1, HB⟩ := hcut
  cases kq with
  | zero => exact absurd HA.out (by simp [client_Basic.j0])
  | succ kj1 =>
   have H := HA.out
   clear HA
   simp only [client_Basic.j0] at H
   by_cases c13 : x34_1 = true
   · subst c13
     have H1 : (some ((⟨#[]⟩ : ByteArray), (⟨#[]⟩ : ByteArray), 113)) = some (r1, r2, r3) := by rw [if_pos rfl] at H; exact H
     clear H
     have H := H1
     clear H1
     simp only [Option.some.injEq, Prod.mk.injEq] at H
     obtain ⟨rfl, rfl, rfl⟩ := H
     go_wp2
     go_ret3
     exact ⟨by (rfl), by (with_reducible exact HB.out)⟩
   · replace c13 := Bool.eq_false_iff.mpr c13
     subst c13
     have H1 : (if 5 ≤ (a0.size : Int) then ((strings_TrimLeft.f (a0.extract 5 a0.size) (⟨#[32]⟩ : ByteArray)).bind fun t210 => ((client_common.f kj1 t210).bind fun bt211 => ((strings_Cut.f bt211.1 (⟨#[58]⟩ : ByteArray)).bind fun bt213 => ((urlform_Unescape.f bt213.1).bind fun bt216 => ((urlform_Unescape.f bt213.2.1).bind fun bt219 => (if bt211.2 = true then (if bt213.2.2 = true then (if bt216.2.1 = 0 then (if bt219.2.1 = 0 then (some (bt216.1, bt219.1, 0)) else (some ((⟨#[]⟩ : ByteArray), (⟨#[]⟩ : ByteArray), 113))) else (some ((⟨#[]⟩ : ByteArray), (⟨#[]⟩ : ByteArray), 113))) else (some ((⟨#[]⟩ : ByteArray), (⟨#[]⟩ : ByteArray), 113))) else (some ((⟨#[]⟩ : ByteArray), (⟨#[]⟩ : ByteArray), 113)))))))) else (none)) = some (r1, r2, r3) := by rw [if_neg (show ¬ (false = true) by decide)] at H; exact H
     clear H
     have H := H1
     clear H1
     by_cases c14 : 5 ≤ (a0.size : Int)
     · rw [if_pos c14] at H
       have c14b0 := eq_true c14
       have c14b1 : decide (5 ≤ (a0.size : Int)) = true := decide_eq_true c14
       clear c14
       replace H := Option.bind_eq_some_iff.mp H
       obtain ⟨t210, A150, H⟩ := H
       replace H : ((client_common.f kj1 t210).bind fun bt211 => ((strings_Cut.f bt211.1 (⟨#[58]⟩ : ByteArray)).bind fun bt213 => ((urlform_Unescape.f bt213.1).bind fun bt216 => ((urlform_Unescape.f bt213.2.1).bind fun bt219 => (if bt211.2 = true then (if bt213.2.2 = true then (if bt216.2.1 = 0 then (if bt219.2.1 = 0 then (some (bt216.1, bt219.1, 0)) else (some ((⟨#[]⟩ : ByteArray), (⟨#[]⟩ : ByteArray), 113))) else (some ((⟨#[]⟩ : ByteArray), (⟨#[]⟩ : ByteArray), 113))) else (some ((⟨#[]⟩ : ByteArray), (⟨#[]⟩ : ByteArray), 113))) else (some ((⟨#[]⟩ : ByteArray), (⟨#[]⟩ : ByteArray), 113))))))) = some (r1, r2, r3) := H
       have A15 := Aside0.mk A150
       clear A150
       replace H := Option.bind_eq_some_iff.mp H
       obtain ⟨⟨t211, t212⟩, A160, H⟩ := H
       replace H : ((strings_Cut.f t211 (⟨#[58]⟩ : ByteArray)).bind fun bt213 => ((urlform_Unescape.f bt213.1).bind fun bt216 => ((urlform_Unescape.f bt213.2.1).bind fun bt219 => (if t212 = true then (if bt213.2.2 = true then (if bt216.2.1 = 0 then (if bt219.2.1 = 0 then (some (bt216.1, bt219.1, 0)) else (some ((⟨#[]⟩ : ByteArray), (⟨#[]⟩ : ByteArray), 113))) else (some ((⟨#[]⟩ : ByteArray), (⟨#[]⟩ : ByteArray), 113))) else (some ((⟨#[]⟩ : ByteArray), (⟨#[]⟩ : ByteArray), 113))) else (some ((⟨#[]⟩ : ByteArray), (⟨#[]⟩ : ByteArray), 113)))))) = some (r1, r2, r3) := H
       have A16 := Aside0.mk A160
       clear A160
       replace H := Option.bind_eq_some_iff.mp H
       obtain ⟨⟨t213, t214, t215⟩, A170, H⟩ := H
       replace H : ((urlform_Unescape.f t213).bind fun bt216 => ((urlform_Unescape.f t214).bind fun bt219 => (if t212 = true then (if t215 = true then (if bt216.2.1 = 0 then (if bt219.2.1 = 0 then (some (bt216.1, bt219.1, 0)) else (some ((⟨#[]⟩ : ByteArray), (⟨#[]⟩ : ByteArray), 113))) else (some ((⟨#[]⟩ : ByteArray), (⟨#[]⟩ : ByteArray), 113))) else (some ((⟨#[]⟩ : ByteArray), (⟨#[]⟩ : ByteArray), 113))) else (some ((⟨#[]⟩ : ByteArray), (⟨#[]⟩ : ByteArray), 113))))) = some (r1, r2, r3) := H
       have A17 := Aside0.mk A170
       clear A170
       replace H := Option.bind_eq_some_iff.mp H
       obtain ⟨⟨t216, t217, t218⟩, A180, H⟩ := H
       replace H : ((urlform_Unescape.f t214).bind fun bt219 => (if t212 = true then (if t215 = true then (if t217 = 0 then (if bt219.2.1 = 0 then (some (t216, bt219.1, 0)) else (some ((⟨#[]⟩ : ByteArray), (⟨#[]⟩ : ByteArray), 113))) else (some ((⟨#[]⟩ : ByteArray), (⟨#[]⟩ : ByteArray), 113))) else (some ((⟨#[]⟩ : ByteArray), (⟨#[]⟩ : ByteArray), 113))) else (some ((⟨#[]⟩ : ByteArray), (⟨#[]⟩ : ByteArray), 113)))) = some (r1, r2, r3) := H
       have A18 := Aside0.mk A180
       clear A180
       replace H := Option.bind_eq_some_iff.mp H
       obtain ⟨⟨t219, t220, t221⟩, A190, H⟩ := H
       replace H : (if t212 = true then (if t215 = true then (if t217 = 0 then (if t220 = 0 then (some (t216, t219, 0)) else (some ((⟨#[]⟩ : ByteArray), (⟨#[]⟩ : ByteArray), 113))) else (some ((⟨#[]⟩ : ByteArray), (⟨#[]⟩ : ByteArray), 113))) else (some ((⟨#[]⟩ : ByteArray), (⟨#[]⟩ : ByteArray), 113))) else (some ((⟨#[]⟩ : ByteArray), (⟨#[]⟩ : ByteArray), 113))) = some (r1, r2, r3) := H
       have A19 := Aside0.mk A190
       clear A190
       by_cases c20 : t212 = true
       · subst c20
         have H1 : (if t215 = true then (if t217 = 0 then (if t220 = 0 then (some (t216, t219, 0)) else (some ((⟨#[]⟩ : ByteArray), (⟨#[]⟩ : ByteArray), 113))) else (some ((⟨#[]⟩ : ByteArray), (⟨#[]⟩ : ByteArray), 113))) else (some ((⟨#[]⟩ : ByteArray), (⟨#[]⟩ : ByteArray), 113))) = some (r1, r2, r3) := by rw [if_pos rfl] at H; exact H
         clear H
         have H := H1
         clear H1
         by_cases c21 : t215 = true
         · subst c21
           have H1 : (if t217 = 0 then (if t220 = 0 then (some (t216, t219, 0)) else (some ((⟨#[]⟩ : ByteArray), (⟨#[]⟩ : ByteArray), 113))) else (some ((⟨#[]⟩ : ByteArray), (⟨#[]⟩ : ByteArray), 113))) = some (r1, r2, r3) := by rw [if_pos rfl] at H; exact H
           clear H
           have H := H1
           clear H1
           by_cases c22 : t217 = 0
           · rw [if_pos c22] at H
             have c22b0 : (t217 == 0) = true := beq_iff_eq.mpr c22
             have c22b1 : (t217 != 0) = false := bne_eq_false_iff_eq.mpr c22
             clear c22
             by_cases c23 : t220 = 0
             · rw [if_pos c23] at H
               have c23b0 : (t220 == 0) = true := beq_iff_eq.mpr c23
               have c23b1 : (t220 != 0) = false := bne_eq_false_iff_eq.mpr c23
               clear c23
               simp only [Option.some.injEq, Prod.mk.injEq] at H
               obtain ⟨rfl, rfl, rfl⟩ := H
               go_wp2_with (first | ((with_reducible refine gate_callee (f := 64) rfl ?_); refine goesL_ (some 38) rfl rfl Tryz.func64 (by kernel_rfl) rfl #[.string (a0.extract 5 a0.size), .string (⟨#[32]⟩ : ByteArray)] rfl (by ((try simp only [List.map_toArray, List.map_cons, List.map_nil]); (rfl))) ?_; (with_reducible refine (strings_TrimLeft.calls (a0.extract 5 a0.size) (⟨#[32]⟩ : ByteArray) t210 _ A15.out).mono ?_); rintro e w24 ⟨rfl, hb⟩; refine ⟨_, rfl, ?_⟩; replace HB := Aside0.mk (below_step HB.out hb); clear hb) | ((with_reducible refine gate_callee (f := 63) rfl ?_); refine goesL_ (some 39) rfl rfl Tryz.func63 (by kernel_rfl) rfl #[.string t210] rfl (by ((try simp only [List.map_toArray, List.map_cons, List.map_nil]); (rfl))) ?_; (with_reducible refine (client_common.calls kj1 t210 t211 true _ A16.out).mono ?_); rintro e w25 ⟨rfl, hb⟩; refine ⟨_, rfl, ?_⟩; replace HB := Aside0.mk (below_step HB.out hb); clear hb) | ((with_reducible refine gate_callee (f := 65) rfl ?_); refine goesL_ (some 44) rfl rfl Tryz.func65 (by kernel_rfl) rfl #[.string t211, .string (⟨#[58]⟩ : ByteArray)] rfl (by ((try simp only [List.map_toArray, List.map_cons, List.map_nil]); (rfl))) ?_; (with_reducible refine (strings_Cut.calls t211 (⟨#[58]⟩ : ByteArray) t213 t214 true _ A17.out).mono ?_); rintro e w26 ⟨rfl, hb⟩; refine ⟨_, rfl, ?_⟩; replace HB := Aside0.mk (below_step HB.out hb); clear hb) | ((with_reducible refine gate_callee (f := 66) rfl ?_); refine goesL_ (some 50) rfl rfl Tryz.func66 (by kernel_rfl) rfl #[.string t213] rfl (by ((try simp only [List.map_toArray, List.map_cons, List.map_nil]); (rfl))) ?_; (with_reducible refine (urlform_Unescape.calls t213 t216 t217 t218 _ A18.out).mono ?_); rintro e w27 ⟨rfl, hb⟩; refine ⟨_, rfl, ?_⟩; replace HB := Aside0.mk (below_step HB.out hb); clear hb) | ((with_reducible refine gate_callee (f := 66) rfl ?_); refine goesL_ (some 56) rfl rfl Tryz.func66 (by kernel_rfl) rfl #[.string t214] rfl (by ((try simp only [List.map_toArray, List.map_cons, List.map_nil]); (rfl))) ?_; (with_reducible refine (urlform_Unescape.calls t214 t219 t220 t221 _ A19.out).mono ?_); rintro e w28 ⟨rfl, hb⟩; refine ⟨_, rfl, ?_⟩; replace HB := Aside0.mk (below_step HB.out hb); clear hb))
               go_ret3
               exact ⟨by (rfl), by (with_reducible exact HB.out)⟩
             · rw [if_neg c23] at H
               have c23b0 : (t220 == 0) = false := beq_eq_false_iff_ne.mpr c23
               have c23b1 : (t220 != 0) = true := bne_iff_ne.mpr c23
               simp only [Option.some.injEq, Prod.mk.injEq] at H
               obtain ⟨rfl, rfl, rfl⟩ := H
               go_wp2_with (first | ((with_reducible refine gate_callee (f := 64) rfl ?_); refine goesL_ (some 38) rfl rfl Tryz.func64 (by kernel_rfl) rfl #[.string (a0.extract 5 a0.size), .string (⟨#[32]⟩ : ByteArray)] rfl (by ((try simp only [List.map_toArray, List.map_cons, List.map_nil]); (rfl))) ?_; (with_reducible refine (strings_TrimLeft.calls (a0.extract 5 a0.size) (⟨#[32]⟩ : ByteArray) t210 _ A15.out).mono ?_); rintro e w29 ⟨rfl, hb⟩; refine ⟨_, rfl, ?_⟩; replace HB := Aside0.mk (below_step HB.out hb); clear hb) | ((with_reducible refine gate_callee (f := 63) rfl ?_); refine goesL_ (some 39) rfl rfl Tryz.func63 (by kernel_rfl) rfl #[.string t210] rfl (by ((try simp only [List.map_toArray, List.map_cons, List.map_nil]); (rfl))) ?_; (with_reducible refine (client_common.calls kj1 t210 t211 true _ A16.out).mono ?_); rintro e w30 ⟨rfl, hb⟩; refine ⟨_, rfl, ?_⟩; replace HB := Aside0.mk (below_step HB.out hb); clear hb) | ((with_reducible refine gate_callee (f := 65) rfl ?_); refine goesL_ (some 44) rfl rfl Tryz.func65 (by kernel_rfl) rfl #[.string t211, .string (⟨#[58]⟩ : ByteArray)] rfl (by ((try simp only [List.map_toArray, List.map_cons, List.map_nil]); (rfl))) ?_; (with_reducible refine (strings_Cut.calls t211 (⟨#[58]⟩ : ByteArray) t213 t214 true _ A17.out).mono ?_); rintro e w31 ⟨rfl, hb⟩; refine ⟨_, rfl, ?_⟩; replace HB := Aside0.mk (below_step HB.out hb); clear hb) | ((with_reducible refine gate_callee (f := 66) rfl ?_); refine goesL_ (some 50) rfl rfl Tryz.func66 (by kernel_rfl) rfl #[.string t213] rfl (by ((try simp only [List.map_toArray, List.map_cons, List.map_nil]); (rfl))) ?_; (with_reducible refine (urlform_Unescape.calls t213 t216 t217 t218 _ A18.out).mono ?_); rintro e w32 ⟨rfl, hb⟩; refine ⟨_, rfl, ?_⟩; replace HB := Aside0.mk (below_step HB.out hb); clear hb) | ((with_reducible refine gate_callee (f := 66) rfl ?_); refine goesL_ (some 56) rfl rfl Tryz.func66 (by kernel_rfl) rfl #[.string t214] rfl (by ((try simp only [List.map_toArray, List.map_cons, List.map_nil]); (rfl))) ?_; (with_reducible refine (urlform_Unescape.calls t214 t219 t220 t221 _ A19.out).mono ?_); rintro e w33 ⟨rfl, hb⟩; refine ⟨_, rfl, ?_⟩; replace HB := Aside0.mk (below_step HB.out hb); clear hb))
               go_ret3
               exact ⟨by (rfl), by (with_reducible exact HB.out)⟩
           · rw [if_neg c22] at H
             have c22b0 : (t217 == 0) = false := beq_eq_false_iff_ne.mpr c22
             have c22b1 : (t217 != 0) = true := bne_iff_ne.mpr c22
             simp only [Option.some.injEq, Prod.mk.injEq] at H
             obtain ⟨rfl, rfl, rfl⟩ := H
             go_wp2_with (first | ((with_reducible refine gate_callee (f := 64) rfl ?_); refine goesL_ (some 38) rfl rfl Tryz.func64 (by kernel_rfl) rfl #[.string (a0.extract 5 a0.size), .string (⟨#[32]⟩ : ByteArray)] rfl (by ((try simp only [List.map_toArray, List.map_cons, List.map_nil]); (rfl))) ?_; (with_reducible refine (strings_TrimLeft.calls (a0.extract 5 a0.size) (⟨#[32]⟩ : ByteArray) t210 _ A15.out).mono ?_); rintro e w34 ⟨rfl, hb⟩; refine ⟨_, rfl, ?_⟩; replace HB := Aside0.mk (below_step HB.out hb); clear hb) | ((with_reducible refine gate_callee (f := 63) rfl ?_); refine goesL_ (some 39) rfl rfl Tryz.func63 (by kernel_rfl) rfl #[.string t210] rfl (by ((try simp only [List.map_toArray, List.map_cons, List.map_nil]); (rfl))) ?_; (with_reducible refine (client_common.calls kj1 t210 t211 true _ A16.out).mono ?_); rintro e w35 ⟨rfl, hb⟩; refine ⟨_, rfl, ?_⟩; replace HB := Aside0.mk (below_step HB.out hb); clear hb) | ((with_reducible refine gate_callee (f := 65) rfl ?_); refine goesL_ (some 44) rfl rfl Tryz.func65 (by kernel_rfl) rfl #[.string t211, .string (⟨#[58]⟩ : ByteArray)] rfl (by ((try simp only [List.map_toArray, List.map_cons, List.map_nil]); (rfl))) ?_; (with_reducible refine (strings_Cut.calls t211 (⟨#[58]⟩ : ByteArray) t213 t214 true _ A17.out).mono ?_); rintro e w36 ⟨rfl, hb⟩; refine ⟨_, rfl, ?_⟩; replace HB := Aside0.mk (below_step HB.out hb); clear hb) | ((with_reducible refine gate_callee (f := 66) rfl ?_); refine goesL_ (some 50) rfl rfl Tryz.func66 (by kernel_rfl) rfl #[.string t213] rfl (by ((try simp only [List.map_toArray, List.map_cons, List.map_nil]); (rfl))) ?_; (with_reducible refine (urlform_Unescape.calls t213 t216 t217 t218 _ A18.out).mono ?_); rintro e w37 ⟨rfl, hb⟩; refine ⟨_, rfl, ?_⟩; replace HB := Aside0.mk (below_step HB.out hb); clear hb) | ((with_reducible refine gate_callee (f := 66) rfl ?_); refine goesL_ (some 56) rfl rfl Tryz.func66 (by kernel_rfl) rfl #[.string t214] rfl (by ((try simp only [List.map_toArray, List.map_cons, List.map_nil]); (rfl))) ?_; (with_reducible refine (urlform_Unescape.calls t214 t219 t220 t221 _ A19.out).mono ?_); rintro e w38 ⟨rfl, hb⟩; refine ⟨_, rfl, ?_⟩; replace HB := Aside0.mk (below_step HB.out hb); clear hb))
             go_ret3
             exact ⟨by (rfl), by (with_reducible exact HB.out)⟩
         · replace c21 := Bool.eq_false_iff.mpr c21
           subst c21
           have H1 : (some ((⟨#[]⟩ : ByteArray), (⟨#[]⟩ : ByteArray), 113)) = some (r1, r2, r3) := by rw [if_neg (show ¬ (false = true) by decide)] at H; exact H
           clear H
           have H := H1
           clear H1
           simp only [Option.some.injEq, Prod.mk.injEq] at H
           obtain ⟨rfl, rfl, rfl⟩ := H
           go_wp2_with (first | ((with_reducible refine gate_callee (f := 64) rfl ?_); refine goesL_ (some 38) rfl rfl Tryz.func64 (by kernel_rfl) rfl #[.string (a0.extract 5 a0.size), .string (⟨#[32]⟩ : ByteArray)] rfl (by ((try simp only [List.map_toArray, List.map_cons, List.map_nil]); (rfl))) ?_; (with_reducible refine (strings_TrimLeft.calls (a0.extract 5 a0.size) (⟨#[32]⟩ : ByteArray) t210 _ A15.out).mono ?_); rintro e w39 ⟨rfl, hb⟩; refine ⟨_, rfl, ?_⟩; replace HB := Aside0.mk (below_step HB.out hb); clear hb) | ((with_reducible refine gate_callee (f := 63) rfl ?_); refine goesL_ (some 39) rfl rfl Tryz.func63 (by kernel_rfl) rfl #[.string t210] rfl (by ((try simp only [List.map_toArray, List.map_cons, List.map_nil]); (rfl))) ?_; (with_reducible refine (client_common.calls kj1 t210 t211 true _ A16.out).mono ?_); rintro e w40 ⟨rfl, hb⟩; refine ⟨_, rfl, ?_⟩; replace HB := Aside0.mk (below_step HB.out hb); clear hb) | ((with_reducible refine gate_callee (f := 65) rfl ?_); refine goesL_ (some 44) rfl rfl Tryz.func65 (by kernel_rfl) rfl #[.string t211, .string (⟨#[58]⟩ : ByteArray)] rfl (by ((try simp only [List.map_toArray, List.map_cons, List.map_nil]); (rfl))) ?_; (with_reducible refine (strings_Cut.calls t211 (⟨#[58]⟩ : ByteArray) t213 t214 false _ A17.out).mono ?_); rintro e w41 ⟨rfl, hb⟩; refine ⟨_, rfl, ?_⟩; replace HB := Aside0.mk (below_step HB.out hb); clear hb) | ((with_reducible refine gate_callee (f := 66) rfl ?_); refine goesL_ (some 50) rfl rfl Tryz.func66 (by kernel_rfl) rfl #[.string t213] rfl (by ((try simp only [List.map_toArray, List.map_cons, List.map_nil]); (rfl))) ?_; (with_reducible refine (urlform_Unescape.calls t213 t216 t217 t218 _ A18.out).mono ?_); rintro e w42 ⟨rfl, hb⟩; refine ⟨_, rfl, ?_⟩; replace HB := Aside0.mk (below_step HB.out hb); clear hb) | ((with_reducible refine gate_callee (f := 66) rfl ?_); refine goesL_ (some 56) rfl rfl Tryz.func66 (by kernel_rfl) rfl #[.string t214] rfl (by ((try simp only [List.map_toArray, List.map_cons, List.map_nil]); (rfl))) ?_; (with_reducible refine (urlform_Unescape.calls t214 t219 t220 t221 _ A19.out).mono ?_); rintro e w43 ⟨rfl, hb⟩; refine ⟨_, rfl, ?_⟩; replace HB := Aside0.mk (below_step HB.out hb); clear hb))
           go_ret3
           exact ⟨by (rfl), by (with_reducible exact HB.out)⟩
       · replace c20 := Bool.eq_false_iff.mpr c20
         subst c20
         have H1 : (some ((⟨#[]⟩ : ByteArray), (⟨#[]⟩ : ByteArray), 113)) = some (r1, r2, r3) := by rw [if_neg (show ¬ (false = true) by decide)] at H; exact H
         clear H
         have H := H1
         clear H1
         simp only [Option.some.injEq, Prod.mk.injEq] at H
         obtain ⟨rfl, rfl, rfl⟩ := H
         go_wp2_with (first | ((with_reducible refine gate_callee (f := 64) rfl ?_); refine goesL_ (some 38) rfl rfl Tryz.func64 (by kernel_rfl) rfl #[.string (a0.extract 5 a0.size), .string (⟨#[32]⟩ : ByteArray)] rfl (by ((try simp only [List.map_toArray, List.map_cons, List.map_nil]); (rfl))) ?_; (with_reducible refine (strings_TrimLeft.calls (a0.extract 5 a0.size) (⟨#[32]⟩ : ByteArray) t210 _ A15.out).mono ?_); rintro e w44 ⟨rfl, hb⟩; refine ⟨_, rfl, ?_⟩; replace HB := Aside0.mk (below_step HB.out hb); clear hb) | ((with_reducible refine gate_callee (f := 63) rfl ?_); refine goesL_ (some 39) rfl rfl Tryz.func63 (by kernel_rfl) rfl #[.string t210] rfl (by ((try simp only [List.map_toArray, List.map_cons, List.map_nil]); (rfl))) ?_; (with_reducible refine (client_common.calls kj1 t210 t211 false _ A16.out).mono ?_); rintro e w45 ⟨rfl, hb⟩; refine ⟨_, rfl, ?_⟩; replace HB := Aside0.mk (below_step HB.out hb); clear hb) | ((with_reducible refine gate_callee (f := 65) rfl ?_); refine goesL_ (some 44) rfl rfl Tryz.func65 (by kernel_rfl) rfl #[.string t211, .string (⟨#[58]⟩ : ByteArray)] rfl (by ((try simp only [List.map_toArray, List.map_cons, List.map_nil]); (rfl))) ?_; (with_reducible refine (strings_Cut.calls t211 (⟨#[58]⟩ : ByteArray) t213 t214 t215 _ A17.out).mono ?_); rintro e w46 ⟨rfl, hb⟩; refine ⟨_, rfl, ?_⟩; replace HB := Aside0.mk (below_step HB.out hb); clear hb) | ((with_reducible refine gate_callee (f := 66) rfl ?_); refine goesL_ (some 50) rfl rfl Tryz.func66 (by kernel_rfl) rfl #[.string t213] rfl (by ((try simp only [List.map_toArray, List.map_cons, List.map_nil]); (rfl))) ?_; (with_reducible refine (urlform_Unescape.calls t213 t216 t217 t218 _ A18.out).mono ?_); rintro e w47 ⟨rfl, hb⟩; refine ⟨_, rfl, ?_⟩; replace HB := Aside0.mk (below_step HB.out hb); clear hb) | ((with_reducible refine gate_callee (f := 66) rfl ?_); refine goesL_ (some 56) rfl rfl Tryz.func66 (by kernel_rfl) rfl #[.string t214] rfl (by ((try simp only [List.map_toArray, List.map_cons, List.map_nil]); (rfl))) ?_; (with_reducible refine (urlform_Unescape.calls t214 t219 t220 t221 _ A19.out).mono ?_); rintro e w48 ⟨rfl, hb⟩; refine ⟨_, rfl, ?_⟩; replace HB := Aside0.mk (below_step HB.out hb); clear hb))
         go_ret3
         exact ⟨by (rfl), by (with_reducible exact HB.out)⟩
     · rw [if_neg c14] at H
       exact absurd H (by simp)
end Go.Proofs.YtmimipgmhgalaaaGreatDoor.PAll
end
section
namespace Go.Proofs.YtmimipgmhgalaaaGreatDoor.PAll
open Go.RowKit Go.Proofs.YtmimipgmhgalaaaGreatDoorW.PrintWords Go.Proofs.YtmimipgmhgalaaaGreatDoorW.PrintLast Go.Proofs.YtmimipgmhgalaaaGreatDoorW.PrintMore
attribute [local go_sem] max2_int min2_int max_two min_two max_three min_three max_four min_four
set_option linter.unusedVariables false
set_option linter.unusedSimpArgs false
def wicketlaw11_ClientBasics.f (k : Nat) (a0 : ByteArray) : Option (Bool) := (client_Basic.f k a0).bind fun bt752 => ((wicketref11_Basic.f k a0).bind fun bt755 => (if bt752.1.toList = bt755.1.toList then (if bt752.2.1.toList = bt755.2.1.toList then ((wicketlaw11_num.f bt752.2.2).bind fun t758 => (if t758 = bt755.2.2 then ((wicketlaw11_live.f).bind fun t759 => (some t759)) else (some false))) else (some false)) else (some false)))
def wicketlaw11_ClientBasics.Pure : Prop := ∀ (a0 : ByteArray), a0.size ≤ 140737488351232 → ∃ k, wicketlaw11_ClientBasics.f k a0 = some true
end Go.Proofs.YtmimipgmhgalaaaGreatDoor.PAll
end
section
namespace Go.Proofs.YtmimipgmhgalaaaGreatDoor.PAll
open Go.RowKit Go.Proofs.YtmimipgmhgalaaaGreatDoorW.PrintWords
set_option linter.unusedVariables false
set_option linter.unusedSimpArgs false
theorem wide_at (s : ByteArray) (hs : s.size = 5) (h : asciiS s = false) : ∃ j, j < 5 ∧ 128 ≤ (s.data.toList.getD j 0).toNat := by
  unfold asciiS at h
  rw [List.all_eq_false] at h
  obtain ⟨b, hb, hx⟩ := h
  obtain ⟨j, hj⟩ := List.getElem?_of_mem hb
  have hl : j < s.data.toList.length := by
    apply Classical.byContradiction
    intro hn
    rw [List.getElem?_eq_none (by omega)] at hj
    cases hj
  have hl2 : s.data.toList.length = s.size := by rw [Array.length_toList]; rfl
  refine ⟨j, by omega, ?_⟩
  rw [List.getD_eq_getElem?_getD, hj]
  have : ¬ b.toNat < 128 := fun e => hx (decide_eq_true e)
  show 128 ≤ b.toNat
  omega
set_option maxRecDepth 100000 in
set_option maxHeartbeats 1000000 in
theorem basic_wide (h : ByteArray) (h1 : h.size ≤ 1024) (h2 : 6 ≤ h.size) (hn : asciiS (h.extract 0 5) = false) (w : World) (hT : FoldT w) : Calls Tryz.prog 32 #[.string h] w fun e w' => e = .returned (.tuple #[.string ⟨#[]⟩, .string ⟨#[]⟩, .int .i64 113]) ∧ Below w.heap.size w w' := by
  have hs : (h.extract 0 5).size = 5 := by
    have e := Lib.extract_data h 0 5
    have : (h.extract 0 5).data.toList.length = (h.extract 0 5).size := by rw [Array.length_toList]; rfl
    rw [← this, e, List.length_take, List.length_drop, Array.length_toList]
    show min (5 - 0) (h.size - 0) = 5
    omega
  have HF := Lib.hid (fun (V : World) (hV : FoldT V) => fold_wide (h.extract 0 5) hs (wide_at _ hs hn) V hV)
  have HT := Lib.hid hT
  have c1 : ((1024 : Int) < (h.size : Int)) = False := eq_false (by omega)
  have c2 : ((h.size : Int) < 6) = False := eq_false (by omega)
  have c3 : ((5 : Int) ≤ (h.size : Int)) = True := eq_true (by omega)
  have c4 : ((5 : Int) < (h.size : Int)) = True := eq_true (by omega)
  clear hn hT hs
  go_enter Tryz.func32, Tryz.ntmps32
  go_wp2_with (go_at_call 62; refine (HF.out _ HT.out).mono ?_; rintro e w1 ⟨rfl, hb⟩; have HB := Lib.hid hb; clear hb)
  go_ret3
  exact ⟨rfl, HB.out⟩
end Go.Proofs.YtmimipgmhgalaaaGreatDoor.PAll
end
section
namespace Go.Proofs.YtmimipgmhgalaaaGreatDoor.PAll
open Go.RowKit Go.Proofs.YtmimipgmhgalaaaGreatDoorW.PrintWords Go.Proofs.YtmimipgmhgalaaaGreatDoorW.PrintLast Go.Proofs.YtmimipgmhgalaaaGreatDoorW.PrintMore
set_option linter.unusedVariables false
set_option linter.unusedSimpArgs false
def wideE (e1 e2 : Int) : Int := if e1 = 0 ∧ e2 = 0 then 113 else 34
set_option maxRecDepth 100000 in
set_option maxHeartbeats 1000000 in
theorem auth_wide (k : Nat) (V : World) (A0 : Option Addr) (n0 c0 : Nat) (hd : ByteArray) (A2 : Option Addr) (c2 : Nat) (l2 : List S68) (h2 : Kd.C k68 V A2 l2.length l2) (h3 : l2.length ≤ c2) (s1 : hd.size ≤ 1024) (s2 : 6 ≤ hd.size) (hn : asciiS (hd.extract 0 5) = false) (hT : FoldT V)
    (v1 v2 : ByteArray) (b1 b2 : Bool) (e1 e2 : Int) (o1 : urlform_One.f k l2 ⟨#[99, 108, 105, 101, 110, 116, 95, 105, 100]⟩ = some (v1, b1, e1)) (o2 : urlform_One.f k l2 ⟨#[99, 108, 105, 101, 110, 116, 95, 115, 101, 99, 114, 101, 116]⟩ = some (v2, b2, e2)) (he1 : e1 = 0 ∨ e1 = 34) (he2 : e2 = 0 ∨ e2 = 34) :
    Calls Tryz.prog 34 #[.slice A0 n0 c0, .string hd, .slice A2 l2.length c2] V fun e w' => e = .returned (.tuple #[.agg #[.string ⟨#[]⟩, .string ⟨#[]⟩, .int .i64 0, .bool false, .string ⟨#[]⟩, .slice none 0 0], .int .i64 0, .int .i64 (wideE e1 e2)]) ∧ Below V.heap.size V w' := by
  have HO1 := Lib.hid (fun (W : World) (h : Kd.C k68 W A2 l2.length l2) => urlform_One.calls k A2 c2 l2 _ v1 b1 e1 W h h3 o1)
  have HO2 := Lib.hid (fun (W : World) (h : Kd.C k68 W A2 l2.length l2) => urlform_One.calls k A2 c2 l2 _ v2 b2 e2 W h h3 o2)
  have HBas := Lib.hid (fun (W : World) (h : FoldT W) => basic_wide hd s1 s2 hn W h)
  have HT := Lib.hid hT
  have hne : hd.toList ≠ [] := by
    intro h
    have h5 : hd.data.toList = [] := by rw [← ByteArray.toList_eq]; exact h
    have h6 : hd.data.toList.length = hd.size := by rw [Array.length_toList]; rfl
    rw [h5, List.length_nil] at h6
    omega
  have f1 : hd.toList.isEmpty = false := by cases hl : hd.toList with | nil => exact absurd hl hne | cons _ _ => rfl
  have f2 : (hd.toList == []) = false := beq_eq_false_iff_ne.2 hne
  have f3 : (hd.toList != []) = true := bne_iff_ne.2 hne
  clear o1 o2 hn hT hne s1 s2
  rcases he1 with rfl | rfl <;> rcases he2 with rfl | rfl
  all_goals
    go_enter Tryz.func34, Tryz.ntmps34
    go_upto_region 1 with ((with_reducible refine gate_dst (N := 6) rfl ?_); refine box_event ?hg (N := 6) ?hd (cs := #[.string ⟨#[]⟩, .string ⟨#[]⟩, .int .i64 0, .bool false, .string ⟨#[]⟩, .slice none 0 0]) (t := 40) ?hr ?_; (case hd => rfl); (case hg => rfl); (case hr => first | (go_simp; done) | (go_simp; rfl)); intro q hg w_q hbox hb; have BQ := Lib.hid hbox; have GE := Lib.hid ((by rw [hg]; exact Nat.le_refl _) : V.heap.size ≤ q); have HB := Lib.hid hb; have HD := Lib.hid (Kd.C_below h2 hb); have HT1 := Lib.hid (FoldT.below HT.out hb); clear hbox hg hb h2 HT)
    go_wp2_with (first | (go_at_call 69; (with_reducible refine (HO1.out _ HD.out).mono ?_); rintro e w1 ⟨rfl, hb⟩; have n1_ := Lib.hid (below_step HB.out hb); have n2_ := Lib.hid (blk_below BQ.out hb); have n3_ := Lib.hid (FoldT.below HT1.out hb); have n4_ := Lib.hid (Kd.C_below HD.out hb); clear HB BQ HT1 HD; have HB := n1_; have BQ := n2_; have HT1 := n3_; have HD := n4_; clear n1_ n2_ n3_ n4_ hb HO1) | (go_at_call 69; (with_reducible refine (HO2.out _ HD.out).mono ?_); rintro e w2 ⟨rfl, hb⟩; have n1_ := Lib.hid (below_step HB.out hb); have n2_ := Lib.hid (blk_below BQ.out hb); have n3_ := Lib.hid (FoldT.below HT1.out hb); clear HB BQ HT1 HD; have HB := n1_; have BQ := n2_; have HT1 := n3_; clear n1_ n2_ n3_ hb HO2; obtain ⟨c60, c61, c62, c63, c64, c65, f60, f61, f62, f63, f64, f65⟩ := cz6_ BQ.out) | (go_at_call 32; (with_reducible refine (HBas.out _ HT1.out).mono ?_); rintro e w3 ⟨rfl, hb⟩; have n1_ := Lib.hid (below_step HB.out hb); have n2_ := Lib.hid (blk_below BQ.out hb); clear HB BQ HT1 c60 c61 c62 c63 c64 c65 f60 f61 f62 f63 f64 f65; have HB := n1_; have BQ := n2_; clear n1_ n2_ hb; obtain ⟨c60, c61, c62, c63, c64, c65, f60, f61, f62, f63, f64, f65⟩ := cz6_ BQ.out))
    refine bodyPost_ret (results_ctt rfl _ _ q 40 #[.string ⟨#[]⟩, .string ⟨#[]⟩, .int .i64 0, .bool false, .string ⟨#[]⟩, .slice none 0 0] (0, 0) _ rfl (put_six BQ.out _ _ _ _ _ _) Tryz.underlying40 rfl (by kernel_rfl)) rfl ?_
    exact ⟨rfl, below_six HB.out GE.out _ _ _ _ _ _⟩
end Go.Proofs.YtmimipgmhgalaaaGreatDoor.PAll
end
section
namespace Go.Proofs.YtmimipgmhgalaaaGreatDoor.Open
open Go.ChangeShapes Go.WideShapes Go.ChangeAt Go.RowKit Go.Proofs.YtmimipgmhgalaaaGreatDoorW.PrintWords
def Opens {α : Type} (P : Program) (T : TypeId) (d : Kd α) (m : α → Nat) (ok : α → Prop) : Prop :=
  ∀ (H : Type) (enc : TypeId × Value → H) (w : World) (base : Nat) (spare : Nat → Bool) (held : Bool) (fuel : Nat) (cs : List Value) (x : DataW H × List MemPlace),
    DataW.trod enc P w base spare held fuel T cs = some x → ∃ a, d.K w a cs ∧ m a ≤ Rows.uptoBulk x.1 ∧ ((DataW.weights P T x.1).all (· ≤ reachBytes) = true → ok a)
theorem opens_string {P : Program} {T : TypeId} (hu : P.underlying T = some .string) : Opens P T Kd.string (fun s => s.size + 1) (fun s => s.size ≤ 140737488351232) := by
  intro H enc w base spare held fuel cs x h
  obtain ⟨s, rfl, rfl, _⟩ := DataW.trod_string hu h
  refine ⟨s, rfl, ?_, fun hw => ?_⟩
  · simp [Rows.uptoBulk]
  · simp only [DataW.weights, List.all_cons, List.all_nil, Bool.and_true, reachBytes, Array.length_toList] at hw
    exact of_decide_eq_true hw
theorem opens_int {P : Program} {T : TypeId} {k : IntKind} (hu : P.underlying T = some (.int k)) : Opens P T (Kd.int k) (fun _ => 1) (fun n => (Lit.int k n).wf = true) := by
  intro H enc w base spare held fuel cs x h
  obtain ⟨n, rfl, rfl, hw⟩ := DataW.trod_int hu h
  exact ⟨n, rfl, by simp [Rows.uptoBulk], fun _ => hw⟩
theorem opens_bool {P : Program} {T : TypeId} (hu : P.underlying T = some .bool) : Opens P T Kd.bool (fun _ => 1) (fun _ => True) := by
  intro H enc w base spare held fuel cs x h
  have h' : ∃ b, cs = [.bool b] ∧ x = (.lit (.bool b), []) := by
    cases fuel with
    | zero => simp [DataW.trod] at h
    | succ n =>
      unfold DataW.trod at h
      rw [hu] at h
      split at h <;> simp_all
  obtain ⟨b, rfl, rfl⟩ := h'
  exact ⟨b, rfl, by simp [Rows.uptoBulk], fun _ => trivial⟩
theorem cells?_at {w : World} {base : Nat} {a : Addr} {n : Nat} {cs : List Value} (h : w.cells? base a n = some cs) : cs.length = n ∧ ∀ (i : Nat) (u : Value), cs[i]? = some u → w.cell? (a.add i) = some u := by
  unfold World.cells? at h
  split at h
  · refine ⟨by simpa using mapM_some_length h, fun i u hu => ?_⟩
    have hi : i < n := by
      have h1 := (List.getElem?_eq_some_iff.1 hu).1
      have h2 : cs.length = n := by simpa using mapM_some_length h
      omega
    have := mapM_some_get h i i (by simp [hi])
    rw [this, hu]
  · cases h
theorem bulk_all_le {H : Type} {α : Type} {m : α → Nat} : ∀ (l : List α) (ys : List (DataW H)), l.length ≤ ys.length → (∀ (i : Nat) (a : α) (y : DataW H), l[i]? = some a → ys[i]? = some y → m a ≤ Rows.uptoBulk y) → (l.map m).sum ≤ Rows.uptoBulkAll ys
  | [], ys, _, _ => by simp
  | a :: l, [], hl, _ => by simp at hl
  | a :: l, y :: ys, hl, h => by
    have h0 := h 0 a y rfl rfl
    have h1 := bulk_all_le l ys (by simpa using hl) (fun i b z hb hz => h (i + 1) b z (by simpa using hb) (by simpa using hz))
    simp only [List.map_cons, List.sum_cons, Rows.uptoBulkAll]
    omega
theorem weights_all_at {H : Type} (P : Program) (e : TypeId) : ∀ (ys : List (DataW H)), (DataW.weightsAll P e ys).all (· ≤ reachBytes) = true → ∀ (i : Nat) (y : DataW H), ys[i]? = some y → (DataW.weights P e y).all (· ≤ reachBytes) = true
  | [], _, i, y, hy => by simp at hy
  | z :: ys, h, i, y, hy => by
    rw [DataW.weightsAll, List.all_append, Bool.and_eq_true] at h
    cases i with
    | zero => simp at hy; subst hy; exact h.1
    | succ i => exact weights_all_at P e ys h.2 i y (by simpa using hy)
theorem choose_list {α β : Type} {n : Nat} {ys : List β} (hn : ys.length = n) {Q : Nat → β → α → Prop} (h : ∀ (i : Nat) (y : β), ys[i]? = some y → ∃ a, Q i y a) : ∃ l : List α, l.length = n ∧ ∀ (i : Nat) (y : β) (a : α), ys[i]? = some y → l[i]? = some a → Q i y a := by
  induction ys generalizing n Q with
  | nil => exact ⟨[], by simpa using hn, by simp⟩
  | cons y ys ih =>
    obtain ⟨a, ha⟩ := h 0 y rfl
    obtain ⟨l, hl, hq⟩ := ih (n := ys.length) rfl (Q := fun i => Q (i + 1)) (fun i z hz => h (i + 1) z (by simpa using hz))
    refine ⟨a :: l, by simp at hn ⊢; omega, fun i z b hz hb => ?_⟩
    cases i with
    | zero => simp at hz hb; subst hz hb; exact ha
    | succ i => exact hq i z b (by simpa using hz) (by simpa using hb)
theorem opens_slice {α : Type} {P : Program} {T e : TypeId} {d : Kd α} {m : α → Nat} {ok : α → Prop} {B : Nat} (hu : P.underlying T = some (.slice e)) (ho : Opens P e d m ok) (hc : P.cellsOf e = d.sz) (hB : P.bytesOf e = B) :
    Opens P T (Kd.slice e d) (fun l => (l.map m).sum + 1) (fun l => l.length * B ≤ 140737488351232 ∧ ∀ a, a ∈ l → ok a) := by
  intro H enc w base spare held fuel cs x h
  rcases DataW.trod_slice hu h with ⟨rfl, rfl⟩ | ⟨a, len, cap, elems, rest, n, _, rfl, rfl, hb, hl, hm, hlen, hel, hsp, hns⟩
  · refine ⟨[], ⟨none, 0, rfl, Nat.le_refl _, rfl, by simp, fun h => absurd h (by simp)⟩, by simp [Rows.uptoBulk], fun _ => ⟨by simp, by simp⟩⟩
  · have each : ∀ (i : Nat) (y : DataW H × List MemPlace), elems[i]? = some y → ∃ b : α, (∃ c, d.K w b c ∧ c.length = d.sz ∧ ∀ (j : Nat) (u : Value), c[j]? = some u → w.cell? ((a.add (i * d.sz)).add j) = some u) ∧ m b ≤ Rows.uptoBulk y.1 ∧ ((DataW.weights P e y.1).all (· ≤ reachBytes) = true → ok b) := by
      intro i y hy
      have hi : i < len := by rw [← hlen]; exact (List.getElem?_eq_some_iff.1 hy).1
      have h1 := hel i hi
      rw [hy, Option.bind_eq_some_iff] at h1
      obtain ⟨c, hcs, ht⟩ := h1
      obtain ⟨b, hk, hm', hok⟩ := ho H enc w base spare held n c y ht
      rw [hc] at hcs
      obtain ⟨hcl, hcc⟩ := cells?_at hcs
      exact ⟨b, ⟨c, hk, hcl, hcc⟩, hm', hok⟩
    obtain ⟨l, hll, hq⟩ := choose_list hlen each
    have hget : ∀ (i : Nat) (b : α), l[i]? = some b → ∃ y, elems[i]? = some y := fun i b hb => by
      have hi : i < l.length := (List.getElem?_eq_some_iff.1 hb).1
      exact ⟨elems[i]'(by omega), List.getElem?_eq_getElem (by omega)⟩
    refine ⟨l, ⟨some a, cap, by rw [hll], by omega, ⟨rfl, by unfold maxLen at hm; omega, fun _ => ⟨a, rfl, fun j p hp => ?_⟩⟩⟩, ?_, fun hw => ?_⟩
    · obtain ⟨y, hy⟩ := hget j p hp
      obtain ⟨⟨c, hk, hcl, hcc⟩, _⟩ := hq j y p hy hp
      exact ⟨c, hcl, hk, fun i u hu' => by rw [← add_add]; exact hcc i u hu'⟩
    · have h1 := bulk_all_le l (elems.map (·.1)) (by simp; omega) (fun i b y hb hy => by
        simp only [List.getElem?_map, Option.map_eq_some_iff] at hy
        obtain ⟨z, hz, rfl⟩ := hy
        exact (hq i z b hz hb).2.1)
      simp only [Rows.uptoBulk]
      omega
    · rw [DataW.weights, hu] at hw
      simp only [hB] at hw
      simp only [List.all_cons, Bool.and_eq_true, List.all_append, decide_eq_true_eq, List.length_map, hlen] at hw
      refine ⟨?_, fun b hb => ?_⟩
      · rw [hll]
        have := hw.1
        unfold reachBytes at this
        exact Nat.le_trans (Nat.mul_le_mul_right _ (by omega)) this
      · obtain ⟨i, hi⟩ := List.getElem?_of_mem hb
        obtain ⟨y, hy⟩ := hget i b hi
        exact (hq i y b hy hi).2.2 (weights_all_at P e _ hw.2.1 i y.1 (by simp [hy]))
theorem arg_slice {α : Type} {H : Type} {enc : TypeId × Value → H} {P : Program} {W : World} {base b0 : Nat} {r : Reach} {spare : Nat → Bool} {held : Bool} {T e : TypeId} {d : Kd α} {m : List α → Nat} {ok : List α → Prop} {v : Value} {x : DataW H} {ps : List MemPlace}
    (hu : P.underlying T = some (.slice e)) (ho : Opens P T (Kd.slice e d) m ok) (hv : Value.okWide P W r b0 T v) (h : DataW.Trod enc P W base spare held T v x ps) :
    ∃ (l : List α) (A : Option Addr) (c : Nat), v = .slice A l.length c ∧ l.length ≤ c ∧ Kd.C d W A l.length l ∧ m l ≤ Rows.uptoBulk x ∧ ((DataW.weights P T x).all (· ≤ reachBytes) = true → ok l) := by
  obtain ⟨a, len, cap, rfl⟩ := okWide_slice hu hv
  obtain ⟨fuel, hf⟩ := h
  obtain ⟨l, ⟨A, c, hcs, hlc, hC⟩, hm, hok⟩ := ho H enc W base spare held fuel _ _ hf
  simp only [Value.cells, List.cons.injEq, and_true] at hcs
  exact ⟨l, A, c, hcs, hlc, hC, hm, hok⟩
theorem arg_string {H : Type} {enc : TypeId × Value → H} {P : Program} {W : World} {base b0 : Nat} {r : Reach} {spare : Nat → Bool} {held : Bool} {T : TypeId} {v : Value} {x : DataW H} {ps : List MemPlace}
    (hu : P.underlying T = some .string) (hv : Value.okWide P W r b0 T v) (h : DataW.Trod enc P W base spare held T v x ps) :
    ∃ s : ByteArray, v = .string s ∧ s.size + 1 ≤ Rows.uptoBulk x ∧ ((DataW.weights P T x).all (· ≤ reachBytes) = true → s.size ≤ 140737488351232) := by
  obtain ⟨s, rfl⟩ := okWide_string hu hv
  obtain ⟨fuel, hf⟩ := h
  obtain ⟨l, hcs, hm, hok⟩ := opens_string hu H enc W base spare held fuel _ _ hf
  have e : s = l := by
    have h2 : [Value.string s] = [Value.string l] := hcs
    injection h2 with h2
    injection h2
  subst e
  exact ⟨s, rfl, hm, hok⟩
theorem trod_lt' {H : Type} {enc : TypeId × Value → H} {P : Program} {W : World} {spare : Nat → Bool} {held : Bool} {T : TypeId} {v : Value} {x : DataW H} {ps : List MemPlace}
    (h : DataW.Trod enc P W 0 spare held T v x ps) : ∀ y ∈ ps, y.block < W.heap.size := by
  obtain ⟨m, hm⟩ := h
  exact DataW.trod_lt m _ _ _ hm
end Go.Proofs.YtmimipgmhgalaaaGreatDoor.Open
end
section
namespace Go.Proofs.YtmimipgmhgalaaaGreatDoor.PAll
open Go.RowKit Go.Proofs.YtmimipgmhgalaaaGreatDoorW.PrintWords Go.Proofs.YtmimipgmhgalaaaGreatDoor.Open
set_option linter.unusedVariables false
set_option linter.unusedSimpArgs false
def ascZ : List Int := (List.range 128).map fun j => (ascT j : Int)
theorem asc_of_reads {W : World} (h : Lib.VarReads Tryz.prog W "unicode.asciiFold" Rows.laid_unicode_asciiFold) : ∀ j, j < 128 → W.cell? ⟨0, j, none⟩ = some (.int .u16 (ascT j : Int)) := by
  obtain ⟨g', t', cs, fuel, p, hg', ht', hvar, hr⟩ := h
  obtain rfl := Option.some.inj ((show Tryz.prog.globalNamed "unicode.asciiFold" = some 0 by kernel_rfl).symm.trans hg')
  obtain rfl := Option.some.inj ((show (Tryz.prog.globals[0]?).map (·.type) = some 175 by kernel_rfl).symm.trans ht')
  rw [show (Rows.laid_unicode_asciiFold : DataW Unit) = Lib.tabData .u16 ascZ by kernel_rfl] at hr
  have hc := Lib.cells_of_tab Tryz.underlying175 Tryz.underlying174 (by kernel_rfl) (by kernel_rfl) hr
  have hT : Lib.TabIs Tryz.prog W "unicode.asciiFold" .u16 ascZ := by unfold Lib.TabIs; rw [hvar, ← hc]
  intro j hj
  have := hT.cell (show Tryz.prog.globalNamed "unicode.asciiFold" = some 0 by kernel_rfl) j (by simp [ascZ]; exact hj)
  rw [show ascZ.getD j 0 = (ascT j : Int) by simp [ascZ, List.getD_eq_getElem?_getD, hj]] at this
  exact this
theorem orb_of_reads {W : World} (h : Lib.VarReads Tryz.prog W "unicode.caseOrbit" Rows.laid_unicode_caseOrbit) : ∃ b o cap sp, W.cell? ⟨1, 0, none⟩ = some (.slice (some ⟨b, o, sp⟩) 94 cap) ∧ W.cell? ⟨b, o + 94, none⟩ = some (.int .u16 966) ∧ W.cell? ⟨b, o + 46, none⟩ = some (.int .u16 837) ∧ W.cell? ⟨b, o + 22, none⟩ = some (.int .u16 452) ∧ W.cell? ⟨b, o + 10, none⟩ = some (.int .u16 197) ∧
    W.cell? ⟨b, o + 16, none⟩ = some (.int .u16 304) ∧ W.cell? ⟨b, o + 20, none⟩ = some (.int .u16 383) ∧ W.cell? ⟨b, o + 18, none⟩ = some (.int .u16 305) ∧ W.cell? ⟨b, o + 20 + 1, none⟩ = some (.int .u16 83) := by
  obtain ⟨g', t', cs, fuel, p, hg', ht', hvar, hr⟩ := h
  obtain rfl := Option.some.inj ((show Tryz.prog.globalNamed "unicode.caseOrbit" = some 1 by kernel_rfl).symm.trans hg')
  obtain rfl := Option.some.inj ((show (Tryz.prog.globals[1]?).map (·.type) = some 176 by kernel_rfl).symm.trans ht')
  rcases DataW.trod_slice Tryz.underlying176 hr with ⟨_, hx⟩ | ⟨a, len, cap, elems, rest, n, _, hcs0, hx, hb, hl, hm, hlen, hel, hsp, hns⟩
  · exact absurd (congrArg Prod.fst hx) (by unfold Rows.laid_unicode_caseOrbit; intro e; cases e)
  have hx1 := congrArg Prod.fst hx
  unfold Rows.laid_unicode_caseOrbit at hx1
  injection hx1 with he _
  have hlen94 : len = 94 := by
    have := congrArg List.length he
    rw [List.length_map, hlen] at this
    exact this.symm
  subst hlen94
  have hcell := World.var?_cell (show Tryz.prog.globalNamed "unicode.caseOrbit" = some 1 by kernel_rfl) hvar 0
  have key : ∀ (i : Nat) (A B : Int), i < 94 → (elems.map (·.1))[i]? = some (.agg ([A, B].map fun z => .lit (.int .u16 z))) → W.cell? ((a.add (i * 2)).add 0) = some (.int .u16 A) ∧ W.cell? ((a.add (i * 2)).add 1) = some (.int .u16 B) := by
    intro i A B hi hd
    have h1 := hel i hi
    rw [List.getElem?_map, Option.map_eq_some_iff] at hd
    obtain ⟨y, hy, hyd⟩ := hd
    rw [hy, Option.bind_eq_some_iff] at h1
    obtain ⟨c, hcs, htr⟩ := h1
    obtain ⟨y1, y2⟩ := y
    dsimp only at hyd
    subst hyd
    rw [show Tryz.prog.cellsOf 178 = 2 by kernel_rfl] at hcs
    have hc := Lib.ints_of_struct (zs := [A, B]) Tryz.underlying178 (by
      intro j f hf
      match j, hf with
      | 0, hf => obtain rfl := Option.some.inj hf; exact ⟨Tryz.underlying174, rfl, by kernel_rfl⟩
      | 1, hf => obtain rfl := Option.some.inj hf; exact ⟨Tryz.underlying174, rfl, by kernel_rfl⟩
      | j + 2, hf => cases hf) (by kernel_rfl) htr
    obtain ⟨_, hcc⟩ := cells?_at hcs
    subst hc
    exact ⟨hcc 0 _ rfl, hcc 1 _ rfl⟩
  rw [← he] at key
  obtain ⟨b, o, sp⟩ := a
  refine ⟨b, o, cap, sp, ?_, ?_⟩
  · rw [hcell, ← Array.getElem?_toList, hcs0]; rfl
  · exact ⟨(key 47 966 981 (by decide) rfl).1, (key 23 837 921 (by decide) rfl).1, (key 11 452 453 (by decide) rfl).1, (key 5 197 229 (by decide) rfl).1, (key 8 304 304 (by decide) rfl).1, (key 10 383 83 (by decide) rfl).1, (key 9 305 305 (by decide) rfl).1, (key 10 383 83 (by decide) rfl).2⟩
theorem foldT_of_laid {W : World} {l : List (String × DataW Unit)} (h : laidMet Tryz.prog l W) (h1 : ("unicode.asciiFold", Rows.laid_unicode_asciiFold) ∈ l) (h2 : ("unicode.caseOrbit", Rows.laid_unicode_caseOrbit) ∈ l) : FoldT W :=
  ⟨asc_of_reads (Lib.laidMet.reads h h1), orb_of_reads (Lib.laidMet.reads h h2)⟩
end Go.Proofs.YtmimipgmhgalaaaGreatDoor.PAll
end
section
namespace Go.Proofs.YtmimipgmhgalaaaGreatDoor.Sha
open Go.RowKit Go.Proofs.YtmimipgmhgalaaaGreatDoorW.PrintWords Go.Proofs.YtmimipgmhgalaaaGreatDoor.Plain Go.Proofs.YtmimipgmhgalaaaGreatDoor.PAll
set_option linter.unusedSimpArgs false
set_option linter.unusedVariables false
def first : List Nat := [0x6a09e667, 0xbb67ae85, 0x3c6ef372, 0xa54ff53a, 0x510e527f, 0x9b05688c, 0x1f83d9ab, 0x5be0cd19]
def toI (p : List Nat) : List Int := p.map (fun x : Nat => (Int.ofNat x : Int))
theorem toI_len (p : List Nat) : (toI p).length = p.length := List.length_map _
theorem toI_getD (p : List Nat) (j : Nat) : (toI p).getD j 0 = ((p.getD j 0 : Nat) : Int) := by
  unfold toI
  rw [List.getD_eq_getElem?_getD, List.getElem?_map, List.getD_eq_getElem?_getD]
  cases p[j]? <;> rfl
theorem bitOr (a i b : Nat) (hb : b < 2 ^ i) : a * 2 ^ i ||| b = a * 2 ^ i + b := by
  rw [Nat.mul_comm, ← Nat.two_pow_add_eq_or_of_lt hb]
def une : List Nat → List Nat × Nat
  | [] => ([], 0)
  | [x] => ([], x)
  | [x, y] => ([x * 4 + y / 16], y % 16)
  | [x, y, z] => ([x * 4 + y / 16, y % 16 * 16 + z / 4], z % 4)
  | x :: y :: z :: t :: r => ((x * 4 + y / 16) :: (y % 16 * 16 + z / 4) :: (z % 4 * 64 + t) :: (une r).1, (une r).2)
def Lt (b : Nat) (l : List Nat) : Prop := ∀ x ∈ l, x < b
theorem Lt.cons {b x : Nat} {l : List Nat} (h : Lt b (x :: l)) : x < b ∧ Lt b l := ⟨h x (by simp), fun y hy => h y (by simp [hy])⟩
theorem Lt.mk {b x : Nat} {l : List Nat} (h : x < b) (t : Lt b l) : Lt b (x :: l) := fun y hy => by
  rcases List.mem_cons.1 hy with rfl | hy
  · exact h
  · exact t y hy
theorem Lt.nil (b : Nat) : Lt b [] := fun x hx => by simp at hx
theorem une_len : ∀ (v : List Nat), (une v).1.length ≤ v.length
  | [] => by simp [une]
  | [x] => by simp [une]
  | [x, y] => by simp [une]
  | [x, y, z] => by simp [une]
  | x :: y :: z :: t :: r => by
    have := une_len r
    simp only [une, List.length_cons]
    omega
def al64 : List Nat := [65, 66, 67, 68, 69, 70, 71, 72, 73, 74, 75, 76, 77, 78, 79, 80, 81, 82, 83, 84, 85, 86, 87, 88, 89, 90, 97, 98, 99, 100, 101, 102, 103, 104, 105, 106, 107, 108, 109, 110, 111, 112, 113, 114, 115, 116, 117, 118, 119, 120, 121, 122, 48, 49, 50, 51, 52, 53, 54, 55, 56, 57, 45, 95]
def value (al : List Nat) (c : Nat) : Nat := al.idxOf c
def bad (al : List Nat) : List Nat → Nat → Option Nat
  | [], _ => none
  | c :: r, i => if c ∈ al then bad al r (i + 1) else some i
theorem good {al : List Nat} : ∀ (s : List Nat) (i : Nat), bad al s i = none → ∀ c ∈ s, c ∈ al
  | [], _, _ => fun c hc => by simp at hc
  | x :: s, i, h => fun c hc => by
    by_cases hx : x ∈ al
    · rw [bad, if_pos hx] at h
      rcases List.mem_cons.1 hc with rfl | hc
      · exact hx
      · exact good s (i + 1) h c hc
    · rw [bad, if_neg hx] at h
      cases h
theorem value_lt {al : List Nat} (s : List Nat) (h : ∀ c ∈ s, c ∈ al) : Lt al.length (s.map (value al)) := by
  intro x hx
  obtain ⟨c, hc, rfl⟩ := List.mem_map.1 hx
  exact List.idxOf_lt_length_iff.2 (h c hc)
def from64 (s : List Nat) : List Nat × Nat × Nat :=
  if s.length > 65536 then ([], 1, 0) else
  match bad al64 s 0 with
  | some i => ([], 20, i)
  | none => if s.length % 4 = 1 then ([], 3, s.length) else if (une (s.map (value al64))).2 = 0 then ((une (s.map (value al64))).1, 0, 0) else ([], 21, s.length - 1)
theorem from64_len (s : List Nat) : (from64 s).1.length ≤ 65536 := by
  unfold from64
  by_cases h1 : s.length > 65536
  · rw [if_pos h1]; simp
  rw [if_neg h1]
  cases hb : bad al64 s 0 with
  | some i => simp
  | none =>
    simp only []
    by_cases h2 : s.length % 4 = 1
    · rw [if_pos h2]; simp
    rw [if_neg h2]
    by_cases h3 : (une (s.map (value al64))).2 = 0
    · rw [if_pos h3]
      have := une_len (s.map (value al64))
      rw [List.length_map] at this
      show (une (s.map (value al64))).1.length ≤ 65536
      omega
    · rw [if_neg h3]; simp
theorem i64_small (x : Nat) (h : x < 4611686018427387904) : IntKind.i64.wrap (x : Int) = (x : Int) := IntWalk.i64_in _ (by omega)
theorem ofInt_64 (x : Nat) (h : x < 4611686018427387904) : (BitVec.ofInt 64 (x : Int)).toNat = x := by simp; omega
theorem or_i64 (a i b : Nat) (hb : b < 2 ^ i) (hs : a * 2 ^ i + b < 4611686018427387904) : bits .or .i64 ((a * 2 ^ i : Nat) : Int) (b : Int) = ((a * 2 ^ i + b : Nat) : Int) := by
  show IntKind.i64.wrap ((BitVec.ofInt 64 ((a * 2 ^ i : Nat) : Int) ||| BitVec.ofInt 64 (b : Int)).toNat : Int) = _
  rw [BitVec.toNat_or, ofInt_64 _ (by omega), ofInt_64 _ (by omega), bitOr a i b hb, i64_small _ hs]
theorem and_i64 (m j : Nat) (hm : m < 4611686018427387904) (hj : 2 ^ j - 1 < 4611686018427387904) : bits .and .i64 (m : Int) ((2 ^ j - 1 : Nat) : Int) = ((m % 2 ^ j : Nat) : Int) := by
  show IntKind.i64.wrap ((BitVec.ofInt 64 (m : Int) &&& BitVec.ofInt 64 ((2 ^ j - 1 : Nat) : Int)).toNat : Int) = _
  rw [BitVec.toNat_and, ofInt_64 _ hm, ofInt_64 _ hj, Nat.and_two_pow_sub_one_eq_mod, i64_small _ (Nat.lt_of_le_of_lt (Nat.mod_le _ _) hm)]
def sN (s : ByteArray) : List Nat := s.data.toList.map UInt8.toNat
theorem sN_len (s : ByteArray) : (sN s).length = s.size := by simp [sN]
theorem sN_all (s : ByteArray) : Lt 256 (sN s) := fun x hx => by
  obtain ⟨c, _, rfl⟩ := List.mem_map.1 hx
  exact c.toNat_lt
theorem bt_sN (s : ByteArray) (i : Nat) (h : i < s.size) : bt s (i : Int) = (((sN s).getD i 0 : Nat) : Int) := by
  have h' : i < (sN s).length := by rw [sN_len]; exact h
  rw [List.getD_eq_getElem?_getD, List.getElem?_eq_getElem h']
  unfold bt
  rw [dif_pos (by simpa using h)]
  simp [sN]
  rfl
theorem rd_toI (p : List Nat) (i : Nat) : rd (toI p) (i : Int) = ((p.getD i 0 : Nat) : Int) := by unfold rd; rw [Int.toNat_natCast, toI_getD]
theorem drop_at {d : List Nat} {p : List Nat} {i x : Nat} (h : p.drop i = x :: d) : i < p.length ∧ p.getD i 0 = x ∧ p.drop (i + 1) = d := by
  have hl : i < p.length := by
    rcases Nat.lt_or_ge i p.length with h1 | h1
    · exact h1
    · rw [List.drop_eq_nil_of_le h1] at h; cases h
  rw [List.drop_eq_getElem_cons hl] at h
  injection h with h1 h2
  exact ⟨hl, by rw [List.getD_eq_getElem?_getD, List.getElem?_eq_getElem hl]; exact h1, h2⟩
theorem drop_none {p : List Nat} {i : Nat} (h : p.drop i = []) : p.length ≤ i := by
  rcases Nat.lt_or_ge i p.length with h1 | h1
  · rw [List.drop_eq_getElem_cons h1] at h; cases h
  · exact h1
def vat (al : List Nat) (c i : Nat) : Int := if c ∈ al then ((i + value al c : Nat) : Int) else -1
theorem vat_cons (al : List Nat) (x c i : Nat) : vat (x :: al) c i = if x = c then (i : Int) else vat al c (i + 1) := by
  unfold vat value
  by_cases h : x = c
  · subst h
    simp
  · have h' : ¬ (c = x) := fun e => h e.symm
    rw [if_neg h]
    simp only [List.mem_cons, h', false_or]
    by_cases hm : c ∈ al
    · rw [if_pos hm, if_pos hm, List.idxOf_cons]
      have : (x == c) = false := by simpa using h
      rw [this]
      simp
      omega
    · rw [if_neg hm, if_neg hm]
theorem place_ev (A : ByteArray) (c : Nat) (hs : A.size ≤ 1000) : ∀ (d : List Nat) (i : Nat), (sN A).drop i = d → Ev (fun k => digest_place.l0 k A (c : Int) (A.size : Int) (i : Int)) (vat d c i)
  | [], i, hd => by
    have h := drop_none hd
    rw [sN_len] at h
    refine Ev.step (f := fun _ => some (-1)) (fun k => ?_) (Ev.eq (Ev.now _) (by simp [vat]))
    simp only [digest_place.l0]
    rw [if_neg (by omega)]
  | x :: d, i, hd => by
    obtain ⟨h1, h2, h3⟩ := drop_at hd
    rw [sN_len] at h1
    have hx := bt_sN A i h1
    rw [h2] at hx
    rw [vat_cons]
    by_cases hc : x = c
    · refine Ev.step (f := fun _ => some (i : Int)) (fun k => ?_) (Ev.eq (Ev.now _) (by rw [if_pos hc]))
      simp only [digest_place.l0]
      rw [if_pos (by omega), if_pos (by omega), if_pos (by omega), if_pos (by rw [hx, hc])]
    · refine Ev.eq (Ev.step (fun k => ?_) (place_ev A c hs d (i + 1) h3)) (by rw [if_neg hc])
      simp only [digest_place.l0]
      rw [if_pos (by omega), if_pos (by omega), if_pos (by omega), if_neg (by rw [hx]; omega), w64 (by omega) (by omega)]
      rfl
theorem values_ev (A s : ByteArray) (hA : A.size ≤ 1000) (hs : s.size ≤ 65536) : ∀ (d : List Nat) (i : Nat) (out : List Nat), (sN s).drop i = d → out.length ≤ i →
    Ev (fun k => digest_values.l0 k A s (toI out) (s.size : Int) (i : Int)) (match bad (sN A) d i with | some j => (([] : List Int), 20, (j : Int)) | none => (toI (out ++ d.map (value (sN A))), 0, 0))
  | [], i, out, hd, ho => by
    have h := drop_none hd
    rw [sN_len] at h
    refine Ev.step (f := fun _ => some (toI out, 0, 0)) (fun k => ?_) (Ev.eq (Ev.now _) (by simp [bad]))
    simp only [digest_values.l0]
    rw [if_neg (by omega)]
  | x :: d, i, out, hd, ho => by
    obtain ⟨h1, h2, h3⟩ := drop_at hd
    rw [sN_len] at h1
    have hx := bt_sN s i h1
    rw [h2] at hx
    have hp := place_ev A x hA (sN A) 0 (by simp)
    by_cases hc : x ∈ sN A
    · have hv : vat (sN A) x 0 = ((value (sN A) x : Nat) : Int) := by unfold vat; rw [if_pos hc, Nat.zero_add]
      rw [hv] at hp
      rw [bad, if_pos hc]
      refine Ev.step (f := fun k => (digest_place.f k A (bt s (i : Int))).bind fun t110 => (if t110 < 0 then (some (([] : List Int), 20, (i : Int))) else (if (toI out).length < 17592186044416 then (digest_values.l0 k A s (toI out ++ [t110]) (s.size : Int) (wrap64 ((i : Int) + 1))) else (none)))) (fun k => ?_) (Ev.bind (a := ((value (sN A) x : Nat) : Int)) (by rw [hx]; exact hp) (Ev.neg (by omega) (Ev.pos (by rw [toI_len]; omega) ?_)))
      · simp only [digest_values.l0]
        rw [if_pos (by omega), if_pos (by omega), if_pos (by omega)]
      · have ih := values_ev A s hA hs d (i + 1) (out ++ [value (sN A) x]) h3 (by simp; omega)
        rw [w64 (by omega) (by omega)]
        have e : toI (out ++ [value (sN A) x]) = toI out ++ [((value (sN A) x : Nat) : Int)] := by simp [toI]
        rw [e] at ih
        refine Ev.eq ih ?_
        rw [List.append_assoc]
        rfl
    · have hv : vat (sN A) x 0 = -1 := by unfold vat; rw [if_neg hc]
      rw [hv] at hp
      rw [bad, if_neg hc]
      refine Ev.step (f := fun k => (digest_place.f k A (bt s (i : Int))).bind fun t110 => (if t110 < 0 then (some (([] : List Int), 20, (i : Int))) else (if (toI out).length < 17592186044416 then (digest_values.l0 k A s (toI out ++ [t110]) (s.size : Int) (wrap64 ((i : Int) + 1))) else (none)))) (fun k => ?_) (Ev.bind (a := (-1 : Int)) (by rw [hx]; exact hp) (Ev.pos (by omega) (Ev.now _)))
      simp only [digest_values.l0]
      rw [if_pos (by omega), if_pos (by omega), if_pos (by omega)]
abbrev A64 : ByteArray := ⟨#[65, 66, 67, 68, 69, 70, 71, 72, 73, 74, 75, 76, 77, 78, 79, 80, 81, 82, 83, 84, 85, 86, 87, 88, 89, 90, 97, 98, 99, 100, 101, 102, 103, 104, 105, 106, 107, 108, 109, 110, 111, 112, 113, 114, 115, 116, 117, 118, 119, 120, 121, 122, 48, 49, 50, 51, 52, 53, 54, 55, 56, 57, 45, 95]⟩
theorem sN64 : sN A64 = al64 := by kernel_rfl
theorem vals_ev (A s : ByteArray) (hA : A.size ≤ 1000) : Ev (fun k => digest_values.f k A s) (if s.size > 65536 then (([] : List Int), 1, 0) else match bad (sN A) (sN s) 0 with | some j => (([] : List Int), 20, (j : Int)) | none => (toI ((sN s).map (value (sN A))), 0, 0)) := by
  unfold digest_values.f
  by_cases h : s.size > 65536
  · exact Ev.pos (by omega) (Ev.eq (Ev.now _) (by rw [if_pos h]))
  · refine Ev.neg (by omega) (Ev.eq (values_ev A s hA (by omega) (sN s) 0 [] (by simp) (by simp)) ?_)
    rw [if_neg h, List.nil_append]
theorem toI_push (out : List Nat) (x : Nat) : toI out ++ [(x : Int)] = toI (out ++ [x]) := by simp [toI]
def fin64 (n : Nat) (out : List Nat) (u : List Nat × Nat) : List Int × Int × Int := if u.2 = 0 then (toI (out ++ u.1), 0, 0) else (([] : List Int), 21, (n : Int) - 1)
theorem step_in (V : List Nat) (i : Nat) (h : i < V.length) (hl : V.length ≤ 65536) : (i : Int) < (V.length : Int) ∧ (0 : Int) ≤ (i : Int) ∧ (i : Int) < ((toI V).length : Int) ∧ wrap64 ((i : Int) + 1) = ((i + 1 : Nat) : Int) := by
  rw [toI_len]
  exact ⟨by omega, by omega, by omega, by rw [w64 (by omega) (by omega)]; rfl⟩
theorem put6 (n x : Nat) (hn : n < 1000) (hx : x < 64) : bits .or .i64 (wrap64 ((n : Int) * 64)) (x : Int) = ((n * 64 + x : Nat) : Int) := by
  rw [w64 (by omega) (by omega)]
  exact or_i64 n 6 x hx (by omega)
theorem q6 : wrap64 (0 + 6) = 6 := (w64 (by decide) (by decide)).trans rfl
theorem q12 : wrap64 (6 + 6) = 12 := (w64 (by decide) (by decide)).trans rfl
theorem q4 : wrap64 (12 - 8) = 4 := (w64 (by decide) (by decide)).trans rfl
theorem q10 : wrap64 (4 + 6) = 10 := (w64 (by decide) (by decide)).trans rfl
theorem q2 : wrap64 (10 - 8) = 2 := (w64 (by decide) (by decide)).trans rfl
theorem q8 : wrap64 (2 + 6) = 8 := (w64 (by decide) (by decide)).trans rfl
theorem q0 : wrap64 (8 - 8) = 0 := (w64 (by decide) (by decide)).trans rfl
theorem m4 : wrap64 (shl .i64 1 4 - 1) = 15 := by kernel_rfl
theorem m2 : wrap64 (shl .i64 1 2 - 1) = 3 := by kernel_rfl
theorem m0 : wrap64 (shl .i64 1 0 - 1) = 0 := by kernel_rfl
theorem shr_nat (X : Int) (j : Nat) (h : j ≤ 64) : shr .i64 X (j : Int) = X / 2 ^ j := by
  unfold shr
  rw [Int.toNat_natCast, Nat.min_eq_left (show j ≤ IntKind.i64.bits from h)]
theorem s0 (s : ByteArray) (out V : List Nat) (i x : Nat) (hi : i < V.length) (hx : V.getD i 0 = x) (hxl : x < 64) (hl : V.length ≤ 65536) (k : Nat) :
    digest_FromBase64.l0 (k + 1) s (toI out) 0 0 (toI V) (V.length : Int) (i : Int) = digest_FromBase64.l0 k s (toI out) (x : Int) 6 (toI V) (V.length : Int) ((i + 1 : Nat) : Int) := by
  obtain ⟨h1, h2, h3, h4⟩ := step_in V i hi hl
  have hp := put6 0 x (by omega) hxl
  rw [Nat.zero_mul, Nat.zero_add] at hp
  simp only [digest_FromBase64.l0, q6]
  rw [if_pos h1, if_pos h2, if_pos h3, if_neg (by decide), rd_toI, hx, h4]
  exact congrArg (fun z => digest_FromBase64.l0 k s (toI out) z 6 (toI V) (V.length : Int) ((i + 1 : Nat) : Int)) hp
theorem s6 (s : ByteArray) (out V : List Nat) (i n x : Nat) (hi : i < V.length) (hx : V.getD i 0 = x) (hn : n < 64) (hxl : x < 64) (hl : V.length ≤ 65536) (ho : out.length < 140737488355328) (k : Nat) :
    digest_FromBase64.l0 (k + 1) s (toI out) (n : Int) 6 (toI V) (V.length : Int) (i : Int) = digest_FromBase64.l0 k s (toI (out ++ [n * 4 + x / 16])) ((x % 16 : Nat) : Int) 4 (toI V) (V.length : Int) ((i + 1 : Nat) : Int) := by
  obtain ⟨h1, h2, h3, h4⟩ := step_in V i hi hl
  have hp := put6 n x (by omega) hxl
  have hs : shr .i64 ((n * 64 + x : Nat) : Int) 4 % 256 = ((n * 4 + x / 16 : Nat) : Int) := by
    have := shr_nat ((n * 64 + x : Nat) : Int) 4 (by decide)
    rw [show ((4 : Nat) : Int) = 4 from rfl] at this
    rw [this]
    omega
  have ha : bits .and .i64 ((n * 64 + x : Nat) : Int) 15 = ((x % 16 : Nat) : Int) := by
    have := and_i64 (n * 64 + x) 4 (by omega) (by decide)
    rw [show (n * 64 + x) % 2 ^ 4 = x % 16 by omega] at this
    exact this
  simp only [digest_FromBase64.l0, q12, q4, m4]
  rw [if_pos h1, if_pos h2, if_pos h3, if_pos (by decide), if_pos (by decide), if_pos (by rw [toI_len]; omega), rd_toI, hx, h4, hp, hs, ha, toI_push]
theorem s4 (s : ByteArray) (out V : List Nat) (i n x : Nat) (hi : i < V.length) (hx : V.getD i 0 = x) (hn : n < 16) (hxl : x < 64) (hl : V.length ≤ 65536) (ho : out.length < 140737488355328) (k : Nat) :
    digest_FromBase64.l0 (k + 1) s (toI out) (n : Int) 4 (toI V) (V.length : Int) (i : Int) = digest_FromBase64.l0 k s (toI (out ++ [n * 16 + x / 4])) ((x % 4 : Nat) : Int) 2 (toI V) (V.length : Int) ((i + 1 : Nat) : Int) := by
  obtain ⟨h1, h2, h3, h4⟩ := step_in V i hi hl
  have hp := put6 n x (by omega) hxl
  have hs : shr .i64 ((n * 64 + x : Nat) : Int) 2 % 256 = ((n * 16 + x / 4 : Nat) : Int) := by
    have := shr_nat ((n * 64 + x : Nat) : Int) 2 (by decide)
    rw [show ((2 : Nat) : Int) = 2 from rfl] at this
    rw [this]
    omega
  have ha : bits .and .i64 ((n * 64 + x : Nat) : Int) 3 = ((x % 4 : Nat) : Int) := by
    have := and_i64 (n * 64 + x) 2 (by omega) (by decide)
    rw [show (n * 64 + x) % 2 ^ 2 = x % 4 by omega] at this
    exact this
  simp only [digest_FromBase64.l0, q10, q2, m2]
  rw [if_pos h1, if_pos h2, if_pos h3, if_pos (by decide), if_pos (by decide), if_pos (by rw [toI_len]; omega), rd_toI, hx, h4, hp, hs, ha, toI_push]
theorem s2 (s : ByteArray) (out V : List Nat) (i n x : Nat) (hi : i < V.length) (hx : V.getD i 0 = x) (hn : n < 4) (hxl : x < 64) (hl : V.length ≤ 65536) (ho : out.length < 140737488355328) (k : Nat) :
    digest_FromBase64.l0 (k + 1) s (toI out) (n : Int) 2 (toI V) (V.length : Int) (i : Int) = digest_FromBase64.l0 k s (toI (out ++ [n * 64 + x])) 0 0 (toI V) (V.length : Int) ((i + 1 : Nat) : Int) := by
  obtain ⟨h1, h2, h3, h4⟩ := step_in V i hi hl
  have hp := put6 n x (by omega) hxl
  have hs : shr .i64 ((n * 64 + x : Nat) : Int) 0 % 256 = ((n * 64 + x : Nat) : Int) := by
    have := shr_nat ((n * 64 + x : Nat) : Int) 0 (by decide)
    rw [show ((0 : Nat) : Int) = 0 from rfl] at this
    rw [this]
    omega
  have ha : bits .and .i64 ((n * 64 + x : Nat) : Int) 0 = (0 : Int) := by
    have := and_i64 (n * 64 + x) 0 (by omega) (by decide)
    rw [show (n * 64 + x) % 2 ^ 0 = 0 by omega] at this
    exact this
  simp only [digest_FromBase64.l0, q8, q0, m0]
  rw [if_pos h1, if_pos h2, if_pos h3, if_pos (by decide), if_pos (by decide), if_pos (by rw [toI_len]; omega), rd_toI, hx, h4, hp, hs, ha, toI_push]
theorem sEnd (s : ByteArray) (out V : List Nat) (i n : Nat) (h : Int) (hi : V.length ≤ i) (hs : s.size ≤ 65536) (k : Nat) :
    digest_FromBase64.l0 (k + 1) s (toI out) (n : Int) h (toI V) (V.length : Int) (i : Int) = some (fin64 s.size out ([], n)) := by
  simp only [digest_FromBase64.l0]
  rw [if_neg (by omega)]
  unfold fin64
  by_cases hn : n = 0
  · rw [if_pos (by omega), if_pos hn, List.append_nil]
  · rw [if_neg (by omega), if_neg hn, w64 (by omega) (by omega)]
theorem un64_ev (s : ByteArray) (V : List Nat) (hs : s.size ≤ 65536) (hl : V.length ≤ 65536) (hV : Lt 64 V) : ∀ (d : List Nat) (i : Nat) (out : List Nat), V.drop i = d → out.length ≤ i →
    Ev (fun k => digest_FromBase64.l0 k s (toI out) 0 0 (toI V) (V.length : Int) (i : Int)) (fin64 s.size out (une d))
  | [], i, out, hd, ho => Ev.step (f := fun _ => some (fin64 s.size out ([], 0))) (fun k => sEnd s out V i 0 0 (drop_none hd) hs k) (Ev.now _)
  | [x], i, out, hd, ho => by
    obtain ⟨a1, a2, a3⟩ := drop_at hd
    have ax : x < 64 := a2 ▸ hV _ (by rw [List.getD_eq_getElem?_getD, List.getElem?_eq_getElem a1]; exact List.getElem_mem a1)
    exact Ev.step (fun k => s0 s out V i x a1 a2 ax hl k) (Ev.step (f := fun _ => some (fin64 s.size out ([], x))) (fun k => sEnd s out V (i + 1) x 6 (drop_none a3) hs k) (Ev.now _))
  | [x, y], i, out, hd, ho => by
    obtain ⟨a1, a2, a3⟩ := drop_at hd
    obtain ⟨b1, b2, b3⟩ := drop_at a3
    have ax : x < 64 := a2 ▸ hV _ (by rw [List.getD_eq_getElem?_getD, List.getElem?_eq_getElem a1]; exact List.getElem_mem a1)
    have bx : y < 64 := b2 ▸ hV _ (by rw [List.getD_eq_getElem?_getD, List.getElem?_eq_getElem b1]; exact List.getElem_mem b1)
    refine Ev.eq (Ev.step (fun k => s0 s out V i x a1 a2 ax hl k) (Ev.step (fun k => s6 s out V (i + 1) x y b1 b2 ax bx hl (by omega) k) (Ev.step (f := fun _ => some (fin64 s.size (out ++ [x * 4 + y / 16]) ([], y % 16))) (fun k => sEnd s _ V (i + 1 + 1) (y % 16) 4 (drop_none b3) hs k) (Ev.now _)))) ?_
    simp only [fin64, une, List.append_assoc, List.cons_append, List.nil_append, List.append_nil]
    rfl
  | [x, y, z], i, out, hd, ho => by
    obtain ⟨a1, a2, a3⟩ := drop_at hd
    obtain ⟨b1, b2, b3⟩ := drop_at a3
    obtain ⟨c1, c2, c3⟩ := drop_at b3
    have ax : x < 64 := a2 ▸ hV _ (by rw [List.getD_eq_getElem?_getD, List.getElem?_eq_getElem a1]; exact List.getElem_mem a1)
    have bx : y < 64 := b2 ▸ hV _ (by rw [List.getD_eq_getElem?_getD, List.getElem?_eq_getElem b1]; exact List.getElem_mem b1)
    have cx : z < 64 := c2 ▸ hV _ (by rw [List.getD_eq_getElem?_getD, List.getElem?_eq_getElem c1]; exact List.getElem_mem c1)
    refine Ev.eq (Ev.step (fun k => s0 s out V i x a1 a2 ax hl k) (Ev.step (fun k => s6 s out V (i + 1) x y b1 b2 ax bx hl (by omega) k) (Ev.step (fun k => s4 s (out ++ [x * 4 + y / 16]) V (i + 1 + 1) (y % 16) z c1 c2 (by omega) cx hl (by simp; omega) k)
      (Ev.step (f := fun _ => some (fin64 s.size (out ++ [x * 4 + y / 16] ++ [y % 16 * 16 + z / 4]) ([], z % 4))) (fun k => sEnd s _ V (i + 1 + 1 + 1) (z % 4) 2 (drop_none c3) hs k) (Ev.now _))))) ?_
    simp only [fin64, une, List.append_assoc, List.cons_append, List.nil_append, List.append_nil]
    rfl
  | x :: y :: z :: t :: r, i, out, hd, ho => by
    obtain ⟨a1, a2, a3⟩ := drop_at hd
    obtain ⟨b1, b2, b3⟩ := drop_at a3
    obtain ⟨c1, c2, c3⟩ := drop_at b3
    obtain ⟨d1, d2, d3⟩ := drop_at c3
    have ax : x < 64 := a2 ▸ hV _ (by rw [List.getD_eq_getElem?_getD, List.getElem?_eq_getElem a1]; exact List.getElem_mem a1)
    have bx : y < 64 := b2 ▸ hV _ (by rw [List.getD_eq_getElem?_getD, List.getElem?_eq_getElem b1]; exact List.getElem_mem b1)
    have cx : z < 64 := c2 ▸ hV _ (by rw [List.getD_eq_getElem?_getD, List.getElem?_eq_getElem c1]; exact List.getElem_mem c1)
    have dx : t < 64 := d2 ▸ hV _ (by rw [List.getD_eq_getElem?_getD, List.getElem?_eq_getElem d1]; exact List.getElem_mem d1)
    have ih := un64_ev s V hs hl hV r (i + 1 + 1 + 1 + 1) (out ++ [x * 4 + y / 16] ++ [y % 16 * 16 + z / 4] ++ [z % 4 * 64 + t]) d3 (by simp; omega)
    refine Ev.eq (Ev.step (fun k => s0 s out V i x a1 a2 ax hl k) (Ev.step (fun k => s6 s out V (i + 1) x y b1 b2 ax bx hl (by omega) k) (Ev.step (fun k => s4 s (out ++ [x * 4 + y / 16]) V (i + 1 + 1) (y % 16) z c1 c2 (by omega) cx hl (by simp; omega) k)
      (Ev.step (fun k => s2 s (out ++ [x * 4 + y / 16] ++ [y % 16 * 16 + z / 4]) V (i + 1 + 1 + 1) (z % 4) t d1 d2 (by omega) dx hl (by simp; omega) k) ih)))) ?_
    simp only [fin64, une, List.append_assoc, List.cons_append, List.nil_append, List.append_nil]
    rfl
def tri (r : List Nat × Nat × Nat) : List Int × Int × Int := (toI r.1, (r.2.1 : Int), (r.2.2 : Int))
theorem from64_ev (s : ByteArray) : Ev (fun k => digest_FromBase64.f k s) (tri (from64 (sN s))) := by
  unfold digest_FromBase64.f
  refine Ev.bind (vals_ev A64 s (by decide)) ?_
  rw [sN64]
  unfold from64
  rw [sN_len]
  by_cases h : s.size > 65536
  · rw [if_pos h, if_pos h]
    exact Ev.neg (by decide) (Ev.now _)
  · rw [if_neg h, if_neg h]
    cases hb : bad al64 (sN s) 0 with
    | some j => exact Ev.neg (by simp) (Ev.now _)
    | none =>
      have hl : ((sN s).map (value al64)).length = s.size := by rw [List.length_map, sN_len]
      simp only []
      refine Ev.pos (by simp) ?_
      by_cases h4 : s.size % 4 = 1
      · rw [if_pos h4]
        exact Ev.pos (by rw [toI_len, hl]; omega) (Ev.now _)
      · rw [if_neg h4]
        refine Ev.neg (by rw [toI_len, hl]; omega) ?_
        have hv : Lt 64 ((sN s).map (value al64)) := value_lt _ (good _ 0 hb)
        have hh := un64_ev s ((sN s).map (value al64)) (by omega) (by rw [hl]; omega) hv ((sN s).map (value al64)) 0 [] (by simp) (by simp)
        rw [toI_len]
        refine Ev.eq hh ?_
        unfold fin64
        by_cases h0 : (une ((sN s).map (value al64))).2 = 0
        · rw [if_pos h0, if_pos h0, List.nil_append]
          rfl
        · rw [if_neg h0, if_neg h0]
          have : s.size ≠ 0 := fun e => h0 (by
            have : (sN s).map (value al64) = [] := List.eq_nil_of_length_eq_zero (by rw [hl, e])
            rw [this]; rfl)
          show (([] : List Int), (21 : Int), (s.size : Int) - 1) = _
          unfold tri
          simp only []
          rw [show ((s.size - 1 : Nat) : Int) = (s.size : Int) - 1 by omega]
          rfl
end Go.Proofs.YtmimipgmhgalaaaGreatDoor.Sha
end
