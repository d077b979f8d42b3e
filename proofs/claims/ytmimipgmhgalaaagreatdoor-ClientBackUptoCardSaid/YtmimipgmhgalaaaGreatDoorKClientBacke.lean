/-
  Part 5 of what the proof of ClientBack leans on: words of the print, walks of functions and plain laws; put together by pack.py, a program of this session.
-/
import Derived.Test.YtmimipgmhgalaaaGreatDoorRows
import Derived.ProofKit
import Derived.WalkKit
import Derived.SizedLaws
import Derived.Test.YtmimipgmhgalaaaGreatDoorKClientBackd
section
namespace Go.Proofs.YtmimipgmhgalaaaGreatDoor.PAll
open Go.RowKit Go.Proofs.YtmimipgmhgalaaaGreatDoorW.PrintWords Go.Proofs.YtmimipgmhgalaaaGreatDoorW.PrintLast Go.Proofs.YtmimipgmhgalaaaGreatDoorW.PrintMore
attribute [local go_sem] max2_int min2_int max_two min_two max_three min_three max_four min_four
set_option linter.unusedVariables false
set_option linter.unusedSimpArgs false
def wicketlaw11_ClientBack.j0 : Nat → ByteArray → Option (Bool)
  | 0, _ => none
  | k + 1, x1 => (client_Parse.f k x1).bind fun bt554 => ((wicketlaw11_num.f bt554.2.1).bind fun t559 => (if t559 = 0 then ((wicketlaw11_copied.f k bt554.1).bind fun t561 => ((client_Print.f t561).bind fun bt564 => ((wicketlaw11_num.f bt564.2).bind fun t566 => (if t566 = 1 then (if bt564.1.toList = ([] : List UInt8) then ((wicketlaw11_live.f).bind fun t567 => (some t567)) else (some false)) else ((client_Parse.f k bt564.1).bind fun bt568 => ((wicketlaw11_num.f bt564.2).bind fun t573 => (if t573 = 0 then ((wicketlaw11_num.f bt568.2.1).bind fun t574 => (if t574 = 0 then ((wicketlaw11_all.f k bt554.1).bind fun t575 => ((wicketlaw11_list.f k bt568.1 t575).bind fun t578 => (if t578 = true then ((wicketlaw11_live.f).bind fun t579 => (some t579)) else (some false)))) else (some false))) else (some false)))))))) else (if (bt554.1.length : Int) = 0 then ((wicketlaw11_live.f).bind fun t560 => (some t560)) else (some false))))
def wicketlaw11_ClientBack.f (k : Nat) (l0 : List (S40)) (a1 : ByteArray) : Option (Bool) := (wicketlaw11_copied.f k l0).bind fun t538 => ((client_Print.f t538).bind fun bt541 => ((wicketlaw11_num.f bt541.2).bind fun t543 => (if t543 = 0 then ((client_Parse.f k bt541.1).bind fun bt544 => ((wicketlaw11_num.f bt544.2.1).bind fun t549 => (if t549 = 0 then ((wicketlaw11_all.f k l0).bind fun t550 => ((wicketlaw11_list.f k bt544.1 t550).bind fun t553 => (if t553 = true then (wicketlaw11_ClientBack.j0 k a1) else (some false)))) else (some false)))) else (if bt541.1.toList = ([] : List UInt8) then (wicketlaw11_ClientBack.j0 k a1) else (some false)))))
set_option maxHeartbeats 8000000 in
set_option maxRecDepth 100000 in
theorem wicketlaw11_ClientBack.calls (k : Nat) (A0 : Option Addr) (c0 : Nat) (l0 : List (S40)) (a1 : ByteArray) (r : Bool) (w : World) (hr0 : Kd.C k40 w A0 l0.length l0) (hc0 : l0.length ≤ c0) (h : wicketlaw11_ClientBack.f k l0 a1 = some r) :
    Calls Tryz.prog 4 #[.slice A0 l0.length c0, .string a1] w fun e w' => e = .returned (.bool r) ∧ Below w.heap.size w w' := by
  have HR0 := Aside0.mk hr0
  have HC0 := Aside0.mk hc0
  clear hr0 hc0
  have HB := Aside0.mk (Below.refl w.heap.size w)
  have H : ((wicketlaw11_copied.f k l0).bind fun t538 => ((client_Print.f t538).bind fun bt541 => ((wicketlaw11_num.f bt541.2).bind fun t543 => (if t543 = 0 then ((client_Parse.f k bt541.1).bind fun bt544 => ((wicketlaw11_num.f bt544.2.1).bind fun t549 => (if t549 = 0 then ((wicketlaw11_all.f k l0).bind fun t550 => ((wicketlaw11_list.f k bt544.1 t550).bind fun t553 => (if t553 = true then (wicketlaw11_ClientBack.j0 k a1) else (some false)))) else (some false)))) else (if bt541.1.toList = ([] : List UInt8) then (wicketlaw11_ClientBack.j0 k a1) else (some false)))))) = some r := h
  clear h
  replace H := Option.bind_eq_some_iff.mp H
  obtain ⟨t538, A30, H⟩ := H
  replace H : ((client_Print.f t538).bind fun bt541 => ((wicketlaw11_num.f bt541.2).bind fun t543 => (if t543 = 0 then ((client_Parse.f k bt541.1).bind fun bt544 => ((wicketlaw11_num.f bt544.2.1).bind fun t549 => (if t549 = 0 then ((wicketlaw11_all.f k l0).bind fun t550 => ((wicketlaw11_list.f k bt544.1 t550).bind fun t553 => (if t553 = true then (wicketlaw11_ClientBack.j0 k a1) else (some false)))) else (some false)))) else (if bt541.1.toList = ([] : List UInt8) then (wicketlaw11_ClientBack.j0 k a1) else (some false))))) = some r := H
  have A3 := Aside0.mk A30
  clear A30
  replace H := Option.bind_eq_some_iff.mp H
  obtain ⟨⟨t541, t542⟩, A40, H⟩ := H
  replace H : ((wicketlaw11_num.f t542).bind fun t543 => (if t543 = 0 then ((client_Parse.f k t541).bind fun bt544 => ((wicketlaw11_num.f bt544.2.1).bind fun t549 => (if t549 = 0 then ((wicketlaw11_all.f k l0).bind fun t550 => ((wicketlaw11_list.f k bt544.1 t550).bind fun t553 => (if t553 = true then (wicketlaw11_ClientBack.j0 k a1) else (some false)))) else (some false)))) else (if t541.toList = ([] : List UInt8) then (wicketlaw11_ClientBack.j0 k a1) else (some false)))) = some r := H
  have A4 := Aside0.mk A40
  clear A40
  replace H := Option.bind_eq_some_iff.mp H
  obtain ⟨t543, A50, H⟩ := H
  replace H : (if t543 = 0 then ((client_Parse.f k t541).bind fun bt544 => ((wicketlaw11_num.f bt544.2.1).bind fun t549 => (if t549 = 0 then ((wicketlaw11_all.f k l0).bind fun t550 => ((wicketlaw11_list.f k bt544.1 t550).bind fun t553 => (if t553 = true then (wicketlaw11_ClientBack.j0 k a1) else (some false)))) else (some false)))) else (if t541.toList = ([] : List UInt8) then (wicketlaw11_ClientBack.j0 k a1) else (some false))) = some r := H
  have A5 := Aside0.mk A50
  clear A50
  have HC6 := Aside0.mk H
  clear H
  go_enter Tryz.func4, Tryz.ntmps4
  go_upto_if 26 with (first | ((with_reducible refine gate_callee (f := 15) rfl ?_); refine goesL_ (some 20) rfl rfl Tryz.func15 (by kernel_rfl) rfl #[.slice A0 l0.length c0] rfl (by (try simp only [List.map_toArray, List.map_cons, List.map_nil]); first | done | rfl | (simp only [List.length_drop, List.length_take]; rfl)) ?_; (with_reducible refine (wicketlaw11_copied.calls k _ _ l0 t538 _ ?side1 ?side2 A3.out).mono ?_); (case side1 => repeat (first | exact HR0.out | (with_reducible refine Kd.C_alloc ?_ _) | (with_reducible refine Kd.C_drewN ?_ _) | (with_reducible refine Kd.C_drew ?_))); (case side2 => exact HC0.out); rintro e w7 ⟨v539, rfl, ho0, hb⟩; refine ⟨_, rfl, ?_⟩; have n0_ := Aside0.mk (Kd.S_lower ho0 (below_size (by repeat (first | (with_reducible first | exact HB.out | apply below_alloc | apply pw_below_drewN | apply below_drew1) | exact HB.out)))); have n1_ := Aside0.mk (below_step (by repeat (first | (with_reducible first | exact HB.out | apply below_alloc | apply pw_below_drewN | apply below_drew1) | exact HB.out)) hb); clear HB; have HO540 := n0_; have HB := n1_; clear n0_ n1_; (try clear hb); (try clear hb2); (try clear hk); (try clear hi); (try clear ho0); obtain ⟨Ao8, co8, eo8⟩ := Kd.S_slice HO540.out; subst eo8) | ((with_reducible refine gate_callee (f := 16) rfl ?_); refine goesL_ (some 21) rfl rfl Tryz.func16 (by kernel_rfl) rfl #[.slice Ao8 t538.length co8] rfl (by (try simp only [List.map_toArray, List.map_cons, List.map_nil]); first | done | rfl | (simp only [List.length_drop, List.length_take]; rfl)) ?_; (with_reducible refine (client_Print.calls _ _ t538 t541 t542 _ ?side1 ?side2 A4.out).mono ?_); (case side1 => repeat (first | exact (Kd.S_reads' HO540.out).2.2 | (with_reducible refine Kd.C_alloc ?_ _) | (with_reducible refine Kd.C_drewN ?_ _) | (with_reducible refine Kd.C_drew ?_))); (case side2 => exact (Kd.S_reads' HO540.out).2.1); rintro e w9 ⟨rfl, hb⟩; refine ⟨_, rfl, ?_⟩; have n0_ := Aside0.mk (Kd.S_below (by (with_reducible repeat (first | apply Kd.S_alloc | apply Kd.S_drewN | apply Kd.S_drew)); exact HO540.out) hb); have n1_ := Aside0.mk (below_step (by repeat (first | (with_reducible first | exact HB.out | apply below_alloc | apply pw_below_drewN | apply below_drew1) | exact HB.out)) hb); clear HO540; clear HB; have HO540 := n0_; have HB := n1_; clear n0_ n1_; (try clear hb); (try clear hb2); (try clear hk); (try clear hi)) | ((with_reducible refine gate_callee (f := 19) rfl ?_); refine goesL_ (some 25) rfl rfl Tryz.func19 (by kernel_rfl) rfl #[.int .i64 t542] rfl (by (try simp only [List.map_toArray, List.map_cons, List.map_nil]); first | done | rfl | (simp only [List.length_drop, List.length_take]; rfl)) ?_; (with_reducible refine (wicketlaw11_num.calls t542 t543 _ A5.out).mono ?_); rintro e w' ⟨rfl, ⟨nd, rfl⟩⟩; refine ⟨_, rfl, ?_⟩))
  (try simp only [Act.put, List.setIfInBounds_toArray, List.set_cons_zero, List.set_cons_succ])
  go_cut [] (fun wc => ∃ (kq : Nat), Aside0 (wicketlaw11_ClientBack.j0 kq a1 = some r) ∧ Aside0 (kq ≤ k) ∧ Aside0 (Below w.heap.size w wc))
  case first =>
    have H := HC6.out
    clear HC6
    by_cases c10 : t543 = 0
    · rw [if_pos c10] at H
      have c10b0 : (t543 == 0) = true := beq_iff_eq.mpr c10
      have c10b1 : (t543 != 0) = false := bne_eq_false_iff_eq.mpr c10
      clear c10
      (first | rw [c10b0] | (simp only [i64_w, i32_w]; rw [c10b0]) | skip)
      replace H := Option.bind_eq_some_iff.mp H
      obtain ⟨⟨t544, t545, t546⟩, A110, H⟩ := H
      replace H : ((wicketlaw11_num.f t545).bind fun t549 => (if t549 = 0 then ((wicketlaw11_all.f k l0).bind fun t550 => ((wicketlaw11_list.f k t544 t550).bind fun t553 => (if t553 = true then (wicketlaw11_ClientBack.j0 k a1) else (some false)))) else (some false))) = some r := H
      have A11 := Aside0.mk A110
      clear A110
      replace H := Option.bind_eq_some_iff.mp H
      obtain ⟨t549, A120, H⟩ := H
      replace H : (if t549 = 0 then ((wicketlaw11_all.f k l0).bind fun t550 => ((wicketlaw11_list.f k t544 t550).bind fun t553 => (if t553 = true then (wicketlaw11_ClientBack.j0 k a1) else (some false)))) else (some false)) = some r := H
      have A12 := Aside0.mk A120
      clear A120
      by_cases c13 : t549 = 0
      · rw [if_pos c13] at H
        have c13b0 : (t549 == 0) = true := beq_iff_eq.mpr c13
        have c13b1 : (t549 != 0) = false := bne_eq_false_iff_eq.mpr c13
        clear c13
        replace H := Option.bind_eq_some_iff.mp H
        obtain ⟨t550, A140, H⟩ := H
        replace H : ((wicketlaw11_list.f k t544 t550).bind fun t553 => (if t553 = true then (wicketlaw11_ClientBack.j0 k a1) else (some false))) = some r := H
        have A14 := Aside0.mk A140
        clear A140
        replace H := Option.bind_eq_some_iff.mp H
        obtain ⟨t553, A150, H⟩ := H
        replace H : (if t553 = true then (wicketlaw11_ClientBack.j0 k a1) else (some false)) = some r := H
        have A15 := Aside0.mk A150
        clear A150
        by_cases c16 : t553 = true
        · subst c16
          have H1 : (wicketlaw11_ClientBack.j0 k a1) = some r := by rw [if_pos rfl] at H; exact H
          clear H
          have H := H1
          clear H1
          have H' := Aside0.mk H
          clear H
          go_wp2_with (first | ((with_reducible refine gate_callee (f := 22) rfl ?_); refine goesL_ (some 29) rfl rfl Tryz.func22 (by kernel_rfl) rfl #[.string t541] rfl (by (try simp only [List.map_toArray, List.map_cons, List.map_nil]); first | done | rfl | (simp only [List.length_drop, List.length_take]; rfl)) ?_; (with_reducible refine (client_Parse.calls k t541 t544 t545 t546 _ A11.out).mono ?_); rintro e w17 ⟨v547, rfl, ho0, hb⟩; refine ⟨_, rfl, ?_⟩; have n0_ := Aside0.mk (Kd.S_elder' (by (with_reducible repeat (first | apply Kd.S_alloc | apply Kd.S_drewN | apply Kd.S_drew)); exact HO540.out) (Kd.S_base ho0) hb); have n1_ := Aside0.mk (Kd.S_lower (Kd.S_new' ho0 (Kd.S_lt (by (with_reducible repeat (first | apply Kd.S_alloc | apply Kd.S_drewN | apply Kd.S_drew)); exact HO540.out))) (below_size (by repeat (first | (with_reducible first | exact HB.out | apply below_alloc | apply pw_below_drewN | apply below_drew1) | exact HB.out)))); have n2_ := Aside0.mk (below_step (by repeat (first | (with_reducible first | exact HB.out | apply below_alloc | apply pw_below_drewN | apply below_drew1) | exact HB.out)) hb); clear HO540; clear HB; have HO540 := n0_; have HO548 := n1_; have HB := n2_; clear n0_ n1_ n2_; (try clear hb); (try clear hb2); (try clear hk); (try clear hi); (try clear ho0)) | ((with_reducible refine gate_callee (f := 19) rfl ?_); refine goesL_ (some 34) rfl rfl Tryz.func19 (by kernel_rfl) rfl #[.int .i64 t545] rfl (by (try simp only [List.map_toArray, List.map_cons, List.map_nil]); first | done | rfl | (simp only [List.length_drop, List.length_take]; rfl)) ?_; (with_reducible refine (wicketlaw11_num.calls t545 t549 _ A12.out).mono ?_); rintro e w' ⟨rfl, ⟨nd, rfl⟩⟩; refine ⟨_, rfl, ?_⟩) | (go_at_call 18; (with_reducible refine (wicketlaw11_all.calls k _ _ l0 t550 _ ?side1 ?side2 A14.out).mono ?_); (case side1 => repeat (first | exact (Kd.C_below HR0.out (by repeat (first | (with_reducible first | exact HB.out | apply below_alloc | apply pw_below_drewN | apply below_drew1) | exact HB.out))) | (with_reducible refine Kd.C_alloc ?_ _) | (with_reducible refine Kd.C_drewN ?_ _) | (with_reducible refine Kd.C_drew ?_))); (case side2 => exact HC0.out); rintro e w18 ⟨v551, rfl, ho0, hb⟩; have n0_ := Aside0.mk (Kd.S_below (by (with_reducible repeat (first | apply Kd.S_alloc | apply Kd.S_drewN | apply Kd.S_drew)); exact HO540.out) hb); have n1_ := Aside0.mk (Kd.S_below (by (with_reducible repeat (first | apply Kd.S_alloc | apply Kd.S_drewN | apply Kd.S_drew)); exact HO548.out) hb); have n2_ := Aside0.mk (Kd.S_lower ho0 (below_size (by repeat (first | (with_reducible first | exact HB.out | apply below_alloc | apply pw_below_drewN | apply below_drew1) | exact HB.out)))); have n3_ := Aside0.mk (below_step (by repeat (first | (with_reducible first | exact HB.out | apply below_alloc | apply pw_below_drewN | apply below_drew1) | exact HB.out)) hb); clear HO540; clear HO548; clear HB; have HO540 := n0_; have HO548 := n1_; have HO552 := n2_; have HB := n3_; clear n0_ n1_ n2_ n3_; (try clear hb); (try clear hb2); (try clear hk); (try clear hi); (try clear ho0); obtain ⟨Ao19, co19, eo19⟩ := Kd.S_slice HO548.out; subst eo19; obtain ⟨Ao20, co20, eo20⟩ := Kd.S_slice HO552.out; subst eo20) | (go_at_call 20; (with_reducible refine (wicketlaw11_list.calls k _ _ t544 _ _ t550 true _ ?side1 ?side2 ?side3 ?side4 A15.out).mono ?_); (case side1 => repeat (first | exact (Kd.S_reads' HO548.out).2.2 | (with_reducible refine Kd.C_alloc ?_ _) | (with_reducible refine Kd.C_drewN ?_ _) | (with_reducible refine Kd.C_drew ?_))); (case side2 => exact (Kd.S_reads' HO548.out).2.1); (case side3 => repeat (first | exact (Kd.S_reads' HO552.out).2.2 | (with_reducible refine Kd.C_alloc ?_ _) | (with_reducible refine Kd.C_drewN ?_ _) | (with_reducible refine Kd.C_drew ?_))); (case side4 => exact (Kd.S_reads' HO552.out).2.1); rintro e w21 ⟨rfl, hb⟩; have n0_ := Aside0.mk (Kd.S_below (by (with_reducible repeat (first | apply Kd.S_alloc | apply Kd.S_drewN | apply Kd.S_drew)); exact HO540.out) hb); have n1_ := Aside0.mk (Kd.S_below (by (with_reducible repeat (first | apply Kd.S_alloc | apply Kd.S_drewN | apply Kd.S_drew)); exact HO548.out) hb); have n2_ := Aside0.mk (Kd.S_below (by (with_reducible repeat (first | apply Kd.S_alloc | apply Kd.S_drewN | apply Kd.S_drew)); exact HO552.out) hb); have n3_ := Aside0.mk (below_step (by repeat (first | (with_reducible first | exact HB.out | apply below_alloc | apply pw_below_drewN | apply below_drew1) | exact HB.out)) hb); clear HO540; clear HO548; clear HO552; clear HB; have HO540 := n0_; have HO548 := n1_; have HO552 := n2_; have HB := n3_; clear n0_ n1_ n2_ n3_; (try clear hb); (try clear hb2); (try clear hk); (try clear hi)))
          go_meet
          case rel => exact ⟨_, H', ⟨by first | omega | exact Nat.le_refl _⟩, ⟨by repeat (first | (with_reducible first | exact HB.out | apply below_alloc | apply pw_below_drewN | apply below_drew1) | exact HB.out)⟩⟩
        · replace c16 := Bool.eq_false_iff.mpr c16
          subst c16
          have H1 : (some false) = some r := by rw [if_neg (show ¬ (false = true) by decide)] at H; exact H
          clear H
          have H := H1
          clear H1
          obtain rfl := Option.some.inj H
          go_wp2_with (first | ((with_reducible refine gate_callee (f := 22) rfl ?_); refine goesL_ (some 29) rfl rfl Tryz.func22 (by kernel_rfl) rfl #[.string t541] rfl (by (try simp only [List.map_toArray, List.map_cons, List.map_nil]); first | done | rfl | (simp only [List.length_drop, List.length_take]; rfl)) ?_; (with_reducible refine (client_Parse.calls k t541 t544 t545 t546 _ A11.out).mono ?_); rintro e w22 ⟨v547, rfl, ho0, hb⟩; refine ⟨_, rfl, ?_⟩; have n0_ := Aside0.mk (Kd.S_elder' (by (with_reducible repeat (first | apply Kd.S_alloc | apply Kd.S_drewN | apply Kd.S_drew)); exact HO540.out) (Kd.S_base ho0) hb); have n1_ := Aside0.mk (Kd.S_lower (Kd.S_new' ho0 (Kd.S_lt (by (with_reducible repeat (first | apply Kd.S_alloc | apply Kd.S_drewN | apply Kd.S_drew)); exact HO540.out))) (below_size (by repeat (first | (with_reducible first | exact HB.out | apply below_alloc | apply pw_below_drewN | apply below_drew1) | exact HB.out)))); have n2_ := Aside0.mk (below_step (by repeat (first | (with_reducible first | exact HB.out | apply below_alloc | apply pw_below_drewN | apply below_drew1) | exact HB.out)) hb); clear HO540; clear HB; have HO540 := n0_; have HO548 := n1_; have HB := n2_; clear n0_ n1_ n2_; (try clear hb); (try clear hb2); (try clear hk); (try clear hi); (try clear ho0)) | ((with_reducible refine gate_callee (f := 19) rfl ?_); refine goesL_ (some 34) rfl rfl Tryz.func19 (by kernel_rfl) rfl #[.int .i64 t545] rfl (by (try simp only [List.map_toArray, List.map_cons, List.map_nil]); first | done | rfl | (simp only [List.length_drop, List.length_take]; rfl)) ?_; (with_reducible refine (wicketlaw11_num.calls t545 t549 _ A12.out).mono ?_); rintro e w' ⟨rfl, ⟨nd, rfl⟩⟩; refine ⟨_, rfl, ?_⟩) | (go_at_call 18; (with_reducible refine (wicketlaw11_all.calls k _ _ l0 t550 _ ?side1 ?side2 A14.out).mono ?_); (case side1 => repeat (first | exact (Kd.C_below HR0.out (by repeat (first | (with_reducible first | exact HB.out | apply below_alloc | apply pw_below_drewN | apply below_drew1) | exact HB.out))) | (with_reducible refine Kd.C_alloc ?_ _) | (with_reducible refine Kd.C_drewN ?_ _) | (with_reducible refine Kd.C_drew ?_))); (case side2 => exact HC0.out); rintro e w23 ⟨v551, rfl, ho0, hb⟩; have n0_ := Aside0.mk (Kd.S_below (by (with_reducible repeat (first | apply Kd.S_alloc | apply Kd.S_drewN | apply Kd.S_drew)); exact HO540.out) hb); have n1_ := Aside0.mk (Kd.S_below (by (with_reducible repeat (first | apply Kd.S_alloc | apply Kd.S_drewN | apply Kd.S_drew)); exact HO548.out) hb); have n2_ := Aside0.mk (Kd.S_lower ho0 (below_size (by repeat (first | (with_reducible first | exact HB.out | apply below_alloc | apply pw_below_drewN | apply below_drew1) | exact HB.out)))); have n3_ := Aside0.mk (below_step (by repeat (first | (with_reducible first | exact HB.out | apply below_alloc | apply pw_below_drewN | apply below_drew1) | exact HB.out)) hb); clear HO540; clear HO548; clear HB; have HO540 := n0_; have HO548 := n1_; have HO552 := n2_; have HB := n3_; clear n0_ n1_ n2_ n3_; (try clear hb); (try clear hb2); (try clear hk); (try clear hi); (try clear ho0); obtain ⟨Ao24, co24, eo24⟩ := Kd.S_slice HO548.out; subst eo24; obtain ⟨Ao25, co25, eo25⟩ := Kd.S_slice HO552.out; subst eo25) | (go_at_call 20; (with_reducible refine (wicketlaw11_list.calls k _ _ t544 _ _ t550 false _ ?side1 ?side2 ?side3 ?side4 A15.out).mono ?_); (case side1 => repeat (first | exact (Kd.S_reads' HO548.out).2.2 | (with_reducible refine Kd.C_alloc ?_ _) | (with_reducible refine Kd.C_drewN ?_ _) | (with_reducible refine Kd.C_drew ?_))); (case side2 => exact (Kd.S_reads' HO548.out).2.1); (case side3 => repeat (first | exact (Kd.S_reads' HO552.out).2.2 | (with_reducible refine Kd.C_alloc ?_ _) | (with_reducible refine Kd.C_drewN ?_ _) | (with_reducible refine Kd.C_drew ?_))); (case side4 => exact (Kd.S_reads' HO552.out).2.1); rintro e w26 ⟨rfl, hb⟩; have n0_ := Aside0.mk (Kd.S_below (by (with_reducible repeat (first | apply Kd.S_alloc | apply Kd.S_drewN | apply Kd.S_drew)); exact HO540.out) hb); have n1_ := Aside0.mk (Kd.S_below (by (with_reducible repeat (first | apply Kd.S_alloc | apply Kd.S_drewN | apply Kd.S_drew)); exact HO548.out) hb); have n2_ := Aside0.mk (Kd.S_below (by (with_reducible repeat (first | apply Kd.S_alloc | apply Kd.S_drewN | apply Kd.S_drew)); exact HO552.out) hb); have n3_ := Aside0.mk (below_step (by repeat (first | (with_reducible first | exact HB.out | apply below_alloc | apply pw_below_drewN | apply below_drew1) | exact HB.out)) hb); clear HO540; clear HO548; clear HO552; clear HB; have HO540 := n0_; have HO548 := n1_; have HO552 := n2_; have HB := n3_; clear n0_ n1_ n2_ n3_; (try clear hb); (try clear hb2); (try clear hk); (try clear hi)))
          go_ret
          exact ⟨by first | rfl | (simp [errW_none, errW_some] <;> rfl) | (simp [*, errW_none, errW_some] <;> rfl) | (simp; (generalize ByteArray.toList _ = z_); cases z_ <;> rfl), by repeat (first | (with_reducible first | exact HB.out | apply below_alloc | apply pw_below_drewN | apply below_drew1) | exact HB.out)⟩
      · rw [if_neg c13] at H
        have c13b0 : (t549 == 0) = false := beq_eq_false_iff_ne.mpr c13
        have c13b1 : (t549 != 0) = true := bne_iff_ne.mpr c13
        obtain rfl := Option.some.inj H
        go_wp2_with (first | ((with_reducible refine gate_callee (f := 22) rfl ?_); refine goesL_ (some 29) rfl rfl Tryz.func22 (by kernel_rfl) rfl #[.string t541] rfl (by (try simp only [List.map_toArray, List.map_cons, List.map_nil]); first | done | rfl | (simp only [List.length_drop, List.length_take]; rfl)) ?_; (with_reducible refine (client_Parse.calls k t541 t544 t545 t546 _ A11.out).mono ?_); rintro e w27 ⟨v547, rfl, ho0, hb⟩; refine ⟨_, rfl, ?_⟩; have n0_ := Aside0.mk (Kd.S_elder' (by (with_reducible repeat (first | apply Kd.S_alloc | apply Kd.S_drewN | apply Kd.S_drew)); exact HO540.out) (Kd.S_base ho0) hb); have n1_ := Aside0.mk (Kd.S_lower (Kd.S_new' ho0 (Kd.S_lt (by (with_reducible repeat (first | apply Kd.S_alloc | apply Kd.S_drewN | apply Kd.S_drew)); exact HO540.out))) (below_size (by repeat (first | (with_reducible first | exact HB.out | apply below_alloc | apply pw_below_drewN | apply below_drew1) | exact HB.out)))); have n2_ := Aside0.mk (below_step (by repeat (first | (with_reducible first | exact HB.out | apply below_alloc | apply pw_below_drewN | apply below_drew1) | exact HB.out)) hb); clear HO540; clear HB; have HO540 := n0_; have HO548 := n1_; have HB := n2_; clear n0_ n1_ n2_; (try clear hb); (try clear hb2); (try clear hk); (try clear hi); (try clear ho0)) | ((with_reducible refine gate_callee (f := 19) rfl ?_); refine goesL_ (some 34) rfl rfl Tryz.func19 (by kernel_rfl) rfl #[.int .i64 t545] rfl (by (try simp only [List.map_toArray, List.map_cons, List.map_nil]); first | done | rfl | (simp only [List.length_drop, List.length_take]; rfl)) ?_; (with_reducible refine (wicketlaw11_num.calls t545 t549 _ A12.out).mono ?_); rintro e w' ⟨rfl, ⟨nd, rfl⟩⟩; refine ⟨_, rfl, ?_⟩))
        go_ret
        exact ⟨by first | rfl | (simp [errW_none, errW_some] <;> rfl) | (simp [*, errW_none, errW_some] <;> rfl) | (simp; (generalize ByteArray.toList _ = z_); cases z_ <;> rfl), by repeat (first | (with_reducible first | exact HB.out | apply below_alloc | apply pw_below_drewN | apply below_drew1) | exact HB.out)⟩
    · rw [if_neg c10] at H
      have c10b0 : (t543 == 0) = false := beq_eq_false_iff_ne.mpr c10
      have c10b1 : (t543 != 0) = true := bne_iff_ne.mpr c10
      (first | rw [c10b0] | (simp only [i64_w, i32_w]; rw [c10b0]) | skip)
      by_cases c28 : t541.toList = ([] : List UInt8)
      · rw [if_pos c28] at H
        have c28b0 : (t541.toList == ([] : List UInt8)) = true := beq_iff_eq.mpr c28
        have c28b1 : (t541.toList != ([] : List UInt8)) = false := bne_eq_false_iff_eq.mpr c28
        clear c28
        have H' := Aside0.mk H
        clear H
        go_wp2
        go_meet
        case rel => exact ⟨_, H', ⟨by first | omega | exact Nat.le_refl _⟩, ⟨by repeat (first | (with_reducible first | exact HB.out | apply below_alloc | apply pw_below_drewN | apply below_drew1) | exact HB.out)⟩⟩
      · rw [if_neg c28] at H
        have c28b0 : (t541.toList == ([] : List UInt8)) = false := beq_eq_false_iff_ne.mpr c28
        have c28b1 : (t541.toList != ([] : List UInt8)) = true := bne_iff_ne.mpr c28
        obtain rfl := Option.some.inj H
        go_wp2
        go_ret
        exact ⟨by first | rfl | (simp [errW_none, errW_some] <;> rfl) | (simp [*, errW_none, errW_some] <;> rfl) | (simp; (generalize ByteArray.toList _ = z_); cases z_ <;> rfl), by repeat (first | (with_reducible first | exact HB.out | apply below_alloc | apply pw_below_drewN | apply below_drew1) | exact HB.out)⟩
  case rest =>
    clear HC6
    try clear c1
    try clear c2
    try clear p2
    try clear c4
    try clear c10
    try clear c10b0
    try clear c10b1
    try clear c13
    try clear c13b0
    try clear c13b1
    try clear c15
    try clear c16
    try clear c19
    try clear c22
    try clear c28
    try clear c28b0
    try clear c28b1
    obtain ⟨kq, HA, HJ5, HB⟩ := hcut
    cases kq with
    | zero => exact absurd HA.out (by simp [wicketlaw11_ClientBack.j0])
    | succ kj5 =>
      have H := HA.out
      clear HA
      simp only [wicketlaw11_ClientBack.j0] at H
      replace H := Option.bind_eq_some_iff.mp H
      obtain ⟨⟨t554, t555, t556⟩, A290, H⟩ := H
      replace H : ((wicketlaw11_num.f t555).bind fun t559 => (if t559 = 0 then ((wicketlaw11_copied.f kj5 t554).bind fun t561 => ((client_Print.f t561).bind fun bt564 => ((wicketlaw11_num.f bt564.2).bind fun t566 => (if t566 = 1 then (if bt564.1.toList = ([] : List UInt8) then ((wicketlaw11_live.f).bind fun t567 => (some t567)) else (some false)) else ((client_Parse.f kj5 bt564.1).bind fun bt568 => ((wicketlaw11_num.f bt564.2).bind fun t573 => (if t573 = 0 then ((wicketlaw11_num.f bt568.2.1).bind fun t574 => (if t574 = 0 then ((wicketlaw11_all.f kj5 t554).bind fun t575 => ((wicketlaw11_list.f kj5 bt568.1 t575).bind fun t578 => (if t578 = true then ((wicketlaw11_live.f).bind fun t579 => (some t579)) else (some false)))) else (some false))) else (some false)))))))) else (if (t554.length : Int) = 0 then ((wicketlaw11_live.f).bind fun t560 => (some t560)) else (some false)))) = some r := H
      have A29 := Aside0.mk A290
      clear A290
      replace H := Option.bind_eq_some_iff.mp H
      obtain ⟨t559, A300, H⟩ := H
      replace H : (if t559 = 0 then ((wicketlaw11_copied.f kj5 t554).bind fun t561 => ((client_Print.f t561).bind fun bt564 => ((wicketlaw11_num.f bt564.2).bind fun t566 => (if t566 = 1 then (if bt564.1.toList = ([] : List UInt8) then ((wicketlaw11_live.f).bind fun t567 => (some t567)) else (some false)) else ((client_Parse.f kj5 bt564.1).bind fun bt568 => ((wicketlaw11_num.f bt564.2).bind fun t573 => (if t573 = 0 then ((wicketlaw11_num.f bt568.2.1).bind fun t574 => (if t574 = 0 then ((wicketlaw11_all.f kj5 t554).bind fun t575 => ((wicketlaw11_list.f kj5 bt568.1 t575).bind fun t578 => (if t578 = true then ((wicketlaw11_live.f).bind fun t579 => (some t579)) else (some false)))) else (some false))) else (some false)))))))) else (if (t554.length : Int) = 0 then ((wicketlaw11_live.f).bind fun t560 => (some t560)) else (some false))) = some r := H
      have A30 := Aside0.mk A300
      clear A300
      by_cases c31 : t559 = 0
      · rw [if_pos c31] at H
        have c31b0 : (t559 == 0) = true := beq_iff_eq.mpr c31
        have c31b1 : (t559 != 0) = false := bne_eq_false_iff_eq.mpr c31
        clear c31
        replace H := Option.bind_eq_some_iff.mp H
        obtain ⟨t561, A320, H⟩ := H
        replace H : ((client_Print.f t561).bind fun bt564 => ((wicketlaw11_num.f bt564.2).bind fun t566 => (if t566 = 1 then (if bt564.1.toList = ([] : List UInt8) then ((wicketlaw11_live.f).bind fun t567 => (some t567)) else (some false)) else ((client_Parse.f kj5 bt564.1).bind fun bt568 => ((wicketlaw11_num.f bt564.2).bind fun t573 => (if t573 = 0 then ((wicketlaw11_num.f bt568.2.1).bind fun t574 => (if t574 = 0 then ((wicketlaw11_all.f kj5 t554).bind fun t575 => ((wicketlaw11_list.f kj5 bt568.1 t575).bind fun t578 => (if t578 = true then ((wicketlaw11_live.f).bind fun t579 => (some t579)) else (some false)))) else (some false))) else (some false))))))) = some r := H
        have A32 := Aside0.mk A320
        clear A320
        replace H := Option.bind_eq_some_iff.mp H
        obtain ⟨⟨t564, t565⟩, A330, H⟩ := H
        replace H : ((wicketlaw11_num.f t565).bind fun t566 => (if t566 = 1 then (if t564.toList = ([] : List UInt8) then ((wicketlaw11_live.f).bind fun t567 => (some t567)) else (some false)) else ((client_Parse.f kj5 t564).bind fun bt568 => ((wicketlaw11_num.f t565).bind fun t573 => (if t573 = 0 then ((wicketlaw11_num.f bt568.2.1).bind fun t574 => (if t574 = 0 then ((wicketlaw11_all.f kj5 t554).bind fun t575 => ((wicketlaw11_list.f kj5 bt568.1 t575).bind fun t578 => (if t578 = true then ((wicketlaw11_live.f).bind fun t579 => (some t579)) else (some false)))) else (some false))) else (some false)))))) = some r := H
        have A33 := Aside0.mk A330
        clear A330
        replace H := Option.bind_eq_some_iff.mp H
        obtain ⟨t566, A340, H⟩ := H
        replace H : (if t566 = 1 then (if t564.toList = ([] : List UInt8) then ((wicketlaw11_live.f).bind fun t567 => (some t567)) else (some false)) else ((client_Parse.f kj5 t564).bind fun bt568 => ((wicketlaw11_num.f t565).bind fun t573 => (if t573 = 0 then ((wicketlaw11_num.f bt568.2.1).bind fun t574 => (if t574 = 0 then ((wicketlaw11_all.f kj5 t554).bind fun t575 => ((wicketlaw11_list.f kj5 bt568.1 t575).bind fun t578 => (if t578 = true then ((wicketlaw11_live.f).bind fun t579 => (some t579)) else (some false)))) else (some false))) else (some false))))) = some r := H
        have A34 := Aside0.mk A340
        clear A340
        by_cases c35 : t566 = 1
        · rw [if_pos c35] at H
          have c35b0 : (t566 == 1) = true := beq_iff_eq.mpr c35
          have c35b1 : (t566 != 1) = false := bne_eq_false_iff_eq.mpr c35
          clear c35
          by_cases c36 : t564.toList = ([] : List UInt8)
          · rw [if_pos c36] at H
            have c36b0 : (t564.toList == ([] : List UInt8)) = true := beq_iff_eq.mpr c36
            have c36b1 : (t564.toList != ([] : List UInt8)) = false := bne_eq_false_iff_eq.mpr c36
            clear c36
            replace H := Option.bind_eq_some_iff.mp H
            obtain ⟨t567, A370, H⟩ := H
            replace H : (some t567) = some r := H
            have A37 := Aside0.mk A370
            clear A370
            obtain rfl := Option.some.inj H
            go_wp2_with (first | ((with_reducible refine gate_callee (f := 22) rfl ?_); refine goesL_ (some 47) rfl rfl Tryz.func22 (by kernel_rfl) rfl #[.string a1] rfl (by (try simp only [List.map_toArray, List.map_cons, List.map_nil]); first | done | rfl | (simp only [List.length_drop, List.length_take]; rfl)) ?_; (with_reducible refine (client_Parse.calls kj5 a1 t554 t555 t556 _ A29.out).mono ?_); rintro e w38 ⟨v557, rfl, ho0, hb⟩; refine ⟨_, rfl, ?_⟩; have n0_ := Aside0.mk (Kd.S_lower ho0 (below_size (by repeat (first | (with_reducible first | exact HB.out | apply below_alloc | apply pw_below_drewN | apply below_drew1) | exact HB.out)))); have n1_ := Aside0.mk (below_step (by repeat (first | (with_reducible first | exact HB.out | apply below_alloc | apply pw_below_drewN | apply below_drew1) | exact HB.out)) hb); clear HB; have HO558 := n0_; have HB := n1_; clear n0_ n1_; (try clear hb); (try clear hb2); (try clear hk); (try clear hi); (try clear ho0)) | ((with_reducible refine gate_callee (f := 19) rfl ?_); refine goesL_ (some 52) rfl rfl Tryz.func19 (by kernel_rfl) rfl #[.int .i64 t555] rfl (by (try simp only [List.map_toArray, List.map_cons, List.map_nil]); first | done | rfl | (simp only [List.length_drop, List.length_take]; rfl)) ?_; (with_reducible refine (wicketlaw11_num.calls t555 t559 _ A30.out).mono ?_); rintro e w' ⟨rfl, ⟨nd, rfl⟩⟩; refine ⟨_, rfl, ?_⟩; obtain ⟨Ao39, co39, eo39⟩ := Kd.S_slice HO558.out; subst eo39) | ((with_reducible refine gate_callee (f := 15) rfl ?_); refine goesL_ (some 62) rfl rfl Tryz.func15 (by kernel_rfl) rfl #[.slice Ao39 t554.length co39] rfl (by (try simp only [List.map_toArray, List.map_cons, List.map_nil]); first | done | rfl | (simp only [List.length_drop, List.length_take]; rfl)) ?_; (with_reducible refine (wicketlaw11_copied.calls kj5 _ _ t554 t561 _ ?side1 ?side2 A32.out).mono ?_); (case side1 => repeat (first | exact (Kd.S_reads' HO558.out).2.2 | (with_reducible refine Kd.C_alloc ?_ _) | (with_reducible refine Kd.C_drewN ?_ _) | (with_reducible refine Kd.C_drew ?_))); (case side2 => exact (Kd.S_reads' HO558.out).2.1); rintro e w40 ⟨v562, rfl, ho0, hb⟩; refine ⟨_, rfl, ?_⟩; have n0_ := Aside0.mk (Kd.S_elder' (by (with_reducible repeat (first | apply Kd.S_alloc | apply Kd.S_drewN | apply Kd.S_drew)); exact HO558.out) (Kd.S_base ho0) hb); have n1_ := Aside0.mk (Kd.S_lower (Kd.S_new' ho0 (Kd.S_lt (by (with_reducible repeat (first | apply Kd.S_alloc | apply Kd.S_drewN | apply Kd.S_drew)); exact HO558.out))) (below_size (by repeat (first | (with_reducible first | exact HB.out | apply below_alloc | apply pw_below_drewN | apply below_drew1) | exact HB.out)))); have n2_ := Aside0.mk (below_step (by repeat (first | (with_reducible first | exact HB.out | apply below_alloc | apply pw_below_drewN | apply below_drew1) | exact HB.out)) hb); clear HO558; clear HB; have HO558 := n0_; have HO563 := n1_; have HB := n2_; clear n0_ n1_ n2_; (try clear hb); (try clear hb2); (try clear hk); (try clear hi); (try clear ho0); obtain ⟨Ao41, co41, eo41⟩ := Kd.S_slice HO563.out; subst eo41) | ((with_reducible refine gate_callee (f := 16) rfl ?_); refine goesL_ (some 63) rfl rfl Tryz.func16 (by kernel_rfl) rfl #[.slice Ao41 t561.length co41] rfl (by (try simp only [List.map_toArray, List.map_cons, List.map_nil]); first | done | rfl | (simp only [List.length_drop, List.length_take]; rfl)) ?_; (with_reducible refine (client_Print.calls _ _ t561 t564 t565 _ ?side1 ?side2 A33.out).mono ?_); (case side1 => repeat (first | exact (Kd.S_reads' HO563.out).2.2 | (with_reducible refine Kd.C_alloc ?_ _) | (with_reducible refine Kd.C_drewN ?_ _) | (with_reducible refine Kd.C_drew ?_))); (case side2 => exact (Kd.S_reads' HO563.out).2.1); rintro e w42 ⟨rfl, hb⟩; refine ⟨_, rfl, ?_⟩; have n0_ := Aside0.mk (Kd.S_below (by (with_reducible repeat (first | apply Kd.S_alloc | apply Kd.S_drewN | apply Kd.S_drew)); exact HO558.out) hb); have n1_ := Aside0.mk (Kd.S_below (by (with_reducible repeat (first | apply Kd.S_alloc | apply Kd.S_drewN | apply Kd.S_drew)); exact HO563.out) hb); have n2_ := Aside0.mk (below_step (by repeat (first | (with_reducible first | exact HB.out | apply below_alloc | apply pw_below_drewN | apply below_drew1) | exact HB.out)) hb); clear HO558; clear HO563; clear HB; have HO558 := n0_; have HO563 := n1_; have HB := n2_; clear n0_ n1_ n2_; (try clear hb); (try clear hb2); (try clear hk); (try clear hi)) | ((with_reducible refine gate_callee (f := 19) rfl ?_); refine goesL_ (some 67) rfl rfl Tryz.func19 (by kernel_rfl) rfl #[.int .i64 t565] rfl (by (try simp only [List.map_toArray, List.map_cons, List.map_nil]); first | done | rfl | (simp only [List.length_drop, List.length_take]; rfl)) ?_; (with_reducible refine (wicketlaw11_num.calls t565 t566 _ A34.out).mono ?_); rintro e w' ⟨rfl, ⟨nd, rfl⟩⟩; refine ⟨_, rfl, ?_⟩) | (go_at_call 21; (with_reducible refine (wicketlaw11_live.calls  t567 _ A37.out).mono ?_); rintro e w43 ⟨rfl, hb⟩; have n0_ := Aside0.mk (Kd.S_below (by (with_reducible repeat (first | apply Kd.S_alloc | apply Kd.S_drewN | apply Kd.S_drew)); exact HO558.out) hb); have n1_ := Aside0.mk (Kd.S_below (by (with_reducible repeat (first | apply Kd.S_alloc | apply Kd.S_drewN | apply Kd.S_drew)); exact HO563.out) hb); have n2_ := Aside0.mk (below_step (by repeat (first | (with_reducible first | exact HB.out | apply below_alloc | apply pw_below_drewN | apply below_drew1) | exact HB.out)) hb); clear HO558; clear HO563; clear HB; have HO558 := n0_; have HO563 := n1_; have HB := n2_; clear n0_ n1_ n2_; (try clear hb); (try clear hb2); (try clear hk); (try clear hi)))
            go_ret
            exact ⟨by first | rfl | (simp [errW_none, errW_some] <;> rfl) | (simp [*, errW_none, errW_some] <;> rfl) | (simp; (generalize ByteArray.toList _ = z_); cases z_ <;> rfl), by repeat (first | (with_reducible first | exact HB.out | apply below_alloc | apply pw_below_drewN | apply below_drew1) | exact HB.out)⟩
          · rw [if_neg c36] at H
            have c36b0 : (t564.toList == ([] : List UInt8)) = false := beq_eq_false_iff_ne.mpr c36
            have c36b1 : (t564.toList != ([] : List UInt8)) = true := bne_iff_ne.mpr c36
            obtain rfl := Option.some.inj H
            go_wp2_with (first | ((with_reducible refine gate_callee (f := 22) rfl ?_); refine goesL_ (some 47) rfl rfl Tryz.func22 (by kernel_rfl) rfl #[.string a1] rfl (by (try simp only [List.map_toArray, List.map_cons, List.map_nil]); first | done | rfl | (simp only [List.length_drop, List.length_take]; rfl)) ?_; (with_reducible refine (client_Parse.calls kj5 a1 t554 t555 t556 _ A29.out).mono ?_); rintro e w44 ⟨v557, rfl, ho0, hb⟩; refine ⟨_, rfl, ?_⟩; have n0_ := Aside0.mk (Kd.S_lower ho0 (below_size (by repeat (first | (with_reducible first | exact HB.out | apply below_alloc | apply pw_below_drewN | apply below_drew1) | exact HB.out)))); have n1_ := Aside0.mk (below_step (by repeat (first | (with_reducible first | exact HB.out | apply below_alloc | apply pw_below_drewN | apply below_drew1) | exact HB.out)) hb); clear HB; have HO558 := n0_; have HB := n1_; clear n0_ n1_; (try clear hb); (try clear hb2); (try clear hk); (try clear hi); (try clear ho0)) | ((with_reducible refine gate_callee (f := 19) rfl ?_); refine goesL_ (some 52) rfl rfl Tryz.func19 (by kernel_rfl) rfl #[.int .i64 t555] rfl (by (try simp only [List.map_toArray, List.map_cons, List.map_nil]); first | done | rfl | (simp only [List.length_drop, List.length_take]; rfl)) ?_; (with_reducible refine (wicketlaw11_num.calls t555 t559 _ A30.out).mono ?_); rintro e w' ⟨rfl, ⟨nd, rfl⟩⟩; refine ⟨_, rfl, ?_⟩; obtain ⟨Ao45, co45, eo45⟩ := Kd.S_slice HO558.out; subst eo45) | ((with_reducible refine gate_callee (f := 15) rfl ?_); refine goesL_ (some 62) rfl rfl Tryz.func15 (by kernel_rfl) rfl #[.slice Ao45 t554.length co45] rfl (by (try simp only [List.map_toArray, List.map_cons, List.map_nil]); first | done | rfl | (simp only [List.length_drop, List.length_take]; rfl)) ?_; (with_reducible refine (wicketlaw11_copied.calls kj5 _ _ t554 t561 _ ?side1 ?side2 A32.out).mono ?_); (case side1 => repeat (first | exact (Kd.S_reads' HO558.out).2.2 | (with_reducible refine Kd.C_alloc ?_ _) | (with_reducible refine Kd.C_drewN ?_ _) | (with_reducible refine Kd.C_drew ?_))); (case side2 => exact (Kd.S_reads' HO558.out).2.1); rintro e w46 ⟨v562, rfl, ho0, hb⟩; refine ⟨_, rfl, ?_⟩; have n0_ := Aside0.mk (Kd.S_elder' (by (with_reducible repeat (first | apply Kd.S_alloc | apply Kd.S_drewN | apply Kd.S_drew)); exact HO558.out) (Kd.S_base ho0) hb); have n1_ := Aside0.mk (Kd.S_lower (Kd.S_new' ho0 (Kd.S_lt (by (with_reducible repeat (first | apply Kd.S_alloc | apply Kd.S_drewN | apply Kd.S_drew)); exact HO558.out))) (below_size (by repeat (first | (with_reducible first | exact HB.out | apply below_alloc | apply pw_below_drewN | apply below_drew1) | exact HB.out)))); have n2_ := Aside0.mk (below_step (by repeat (first | (with_reducible first | exact HB.out | apply below_alloc | apply pw_below_drewN | apply below_drew1) | exact HB.out)) hb); clear HO558; clear HB; have HO558 := n0_; have HO563 := n1_; have HB := n2_; clear n0_ n1_ n2_; (try clear hb); (try clear hb2); (try clear hk); (try clear hi); (try clear ho0); obtain ⟨Ao47, co47, eo47⟩ := Kd.S_slice HO563.out; subst eo47) | ((with_reducible refine gate_callee (f := 16) rfl ?_); refine goesL_ (some 63) rfl rfl Tryz.func16 (by kernel_rfl) rfl #[.slice Ao47 t561.length co47] rfl (by (try simp only [List.map_toArray, List.map_cons, List.map_nil]); first | done | rfl | (simp only [List.length_drop, List.length_take]; rfl)) ?_; (with_reducible refine (client_Print.calls _ _ t561 t564 t565 _ ?side1 ?side2 A33.out).mono ?_); (case side1 => repeat (first | exact (Kd.S_reads' HO563.out).2.2 | (with_reducible refine Kd.C_alloc ?_ _) | (with_reducible refine Kd.C_drewN ?_ _) | (with_reducible refine Kd.C_drew ?_))); (case side2 => exact (Kd.S_reads' HO563.out).2.1); rintro e w48 ⟨rfl, hb⟩; refine ⟨_, rfl, ?_⟩; have n0_ := Aside0.mk (Kd.S_below (by (with_reducible repeat (first | apply Kd.S_alloc | apply Kd.S_drewN | apply Kd.S_drew)); exact HO558.out) hb); have n1_ := Aside0.mk (Kd.S_below (by (with_reducible repeat (first | apply Kd.S_alloc | apply Kd.S_drewN | apply Kd.S_drew)); exact HO563.out) hb); have n2_ := Aside0.mk (below_step (by repeat (first | (with_reducible first | exact HB.out | apply below_alloc | apply pw_below_drewN | apply below_drew1) | exact HB.out)) hb); clear HO558; clear HO563; clear HB; have HO558 := n0_; have HO563 := n1_; have HB := n2_; clear n0_ n1_ n2_; (try clear hb); (try clear hb2); (try clear hk); (try clear hi)) | ((with_reducible refine gate_callee (f := 19) rfl ?_); refine goesL_ (some 67) rfl rfl Tryz.func19 (by kernel_rfl) rfl #[.int .i64 t565] rfl (by (try simp only [List.map_toArray, List.map_cons, List.map_nil]); first | done | rfl | (simp only [List.length_drop, List.length_take]; rfl)) ?_; (with_reducible refine (wicketlaw11_num.calls t565 t566 _ A34.out).mono ?_); rintro e w' ⟨rfl, ⟨nd, rfl⟩⟩; refine ⟨_, rfl, ?_⟩))
            go_ret
            exact ⟨by first | rfl | (simp [errW_none, errW_some] <;> rfl) | (simp [*, errW_none, errW_some] <;> rfl) | (simp; (generalize ByteArray.toList _ = z_); cases z_ <;> rfl), by repeat (first | (with_reducible first | exact HB.out | apply below_alloc | apply pw_below_drewN | apply below_drew1) | exact HB.out)⟩
        · rw [if_neg c35] at H
          have c35b0 : (t566 == 1) = false := beq_eq_false_iff_ne.mpr c35
          have c35b1 : (t566 != 1) = true := bne_iff_ne.mpr c35
          replace H := Option.bind_eq_some_iff.mp H
          obtain ⟨⟨t568, t569, t570⟩, A490, H⟩ := H
          replace H : ((wicketlaw11_num.f t565).bind fun t573 => (if t573 = 0 then ((wicketlaw11_num.f t569).bind fun t574 => (if t574 = 0 then ((wicketlaw11_all.f kj5 t554).bind fun t575 => ((wicketlaw11_list.f kj5 t568 t575).bind fun t578 => (if t578 = true then ((wicketlaw11_live.f).bind fun t579 => (some t579)) else (some false)))) else (some false))) else (some false))) = some r := H
          have A49 := Aside0.mk A490
          clear A490
          replace H := Option.bind_eq_some_iff.mp H
          obtain ⟨t573, A500, H⟩ := H
          replace H : (if t573 = 0 then ((wicketlaw11_num.f t569).bind fun t574 => (if t574 = 0 then ((wicketlaw11_all.f kj5 t554).bind fun t575 => ((wicketlaw11_list.f kj5 t568 t575).bind fun t578 => (if t578 = true then ((wicketlaw11_live.f).bind fun t579 => (some t579)) else (some false)))) else (some false))) else (some false)) = some r := H
          have A50 := Aside0.mk A500
          clear A500
          by_cases c51 : t573 = 0
          · rw [if_pos c51] at H
            have c51b0 : (t573 == 0) = true := beq_iff_eq.mpr c51
            have c51b1 : (t573 != 0) = false := bne_eq_false_iff_eq.mpr c51
            clear c51
            replace H := Option.bind_eq_some_iff.mp H
            obtain ⟨t574, A520, H⟩ := H
            replace H : (if t574 = 0 then ((wicketlaw11_all.f kj5 t554).bind fun t575 => ((wicketlaw11_list.f kj5 t568 t575).bind fun t578 => (if t578 = true then ((wicketlaw11_live.f).bind fun t579 => (some t579)) else (some false)))) else (some false)) = some r := H
            have A52 := Aside0.mk A520
            clear A520
            by_cases c53 : t574 = 0
            · rw [if_pos c53] at H
              have c53b0 : (t574 == 0) = true := beq_iff_eq.mpr c53
              have c53b1 : (t574 != 0) = false := bne_eq_false_iff_eq.mpr c53
              clear c53
              replace H := Option.bind_eq_some_iff.mp H
              obtain ⟨t575, A540, H⟩ := H
              replace H : ((wicketlaw11_list.f kj5 t568 t575).bind fun t578 => (if t578 = true then ((wicketlaw11_live.f).bind fun t579 => (some t579)) else (some false))) = some r := H
              have A54 := Aside0.mk A540
              clear A540
              replace H := Option.bind_eq_some_iff.mp H
              obtain ⟨t578, A550, H⟩ := H
              replace H : (if t578 = true then ((wicketlaw11_live.f).bind fun t579 => (some t579)) else (some false)) = some r := H
              have A55 := Aside0.mk A550
              clear A550
              by_cases c56 : t578 = true
              · subst c56
                have H1 : ((wicketlaw11_live.f).bind fun t579 => (some t579)) = some r := by rw [if_pos rfl] at H; exact H
                clear H
                have H := H1
                clear H1
                replace H := Option.bind_eq_some_iff.mp H
                obtain ⟨t579, A570, H⟩ := H
                replace H : (some t579) = some r := H
                have A57 := Aside0.mk A570
                clear A570
                obtain rfl := Option.some.inj H
                go_wp2_with (first | ((with_reducible refine gate_callee (f := 22) rfl ?_); refine goesL_ (some 47) rfl rfl Tryz.func22 (by kernel_rfl) rfl #[.string a1] rfl (by (try simp only [List.map_toArray, List.map_cons, List.map_nil]); first | done | rfl | (simp only [List.length_drop, List.length_take]; rfl)) ?_; (with_reducible refine (client_Parse.calls kj5 a1 t554 t555 t556 _ A29.out).mono ?_); rintro e w58 ⟨v557, rfl, ho0, hb⟩; refine ⟨_, rfl, ?_⟩; have n0_ := Aside0.mk (Kd.S_lower ho0 (below_size (by repeat (first | (with_reducible first | exact HB.out | apply below_alloc | apply pw_below_drewN | apply below_drew1) | exact HB.out)))); have n1_ := Aside0.mk (below_step (by repeat (first | (with_reducible first | exact HB.out | apply below_alloc | apply pw_below_drewN | apply below_drew1) | exact HB.out)) hb); clear HB; have HO558 := n0_; have HB := n1_; clear n0_ n1_; (try clear hb); (try clear hb2); (try clear hk); (try clear hi); (try clear ho0)) | ((with_reducible refine gate_callee (f := 19) rfl ?_); refine goesL_ (some 52) rfl rfl Tryz.func19 (by kernel_rfl) rfl #[.int .i64 t555] rfl (by (try simp only [List.map_toArray, List.map_cons, List.map_nil]); first | done | rfl | (simp only [List.length_drop, List.length_take]; rfl)) ?_; (with_reducible refine (wicketlaw11_num.calls t555 t559 _ A30.out).mono ?_); rintro e w' ⟨rfl, ⟨nd, rfl⟩⟩; refine ⟨_, rfl, ?_⟩; obtain ⟨Ao59, co59, eo59⟩ := Kd.S_slice HO558.out; subst eo59) | ((with_reducible refine gate_callee (f := 15) rfl ?_); refine goesL_ (some 62) rfl rfl Tryz.func15 (by kernel_rfl) rfl #[.slice Ao59 t554.length co59] rfl (by (try simp only [List.map_toArray, List.map_cons, List.map_nil]); first | done | rfl | (simp only [List.length_drop, List.length_take]; rfl)) ?_; (with_reducible refine (wicketlaw11_copied.calls kj5 _ _ t554 t561 _ ?side1 ?side2 A32.out).mono ?_); (case side1 => repeat (first | exact (Kd.S_reads' HO558.out).2.2 | (with_reducible refine Kd.C_alloc ?_ _) | (with_reducible refine Kd.C_drewN ?_ _) | (with_reducible refine Kd.C_drew ?_))); (case side2 => exact (Kd.S_reads' HO558.out).2.1); rintro e w60 ⟨v562, rfl, ho0, hb⟩; refine ⟨_, rfl, ?_⟩; have n0_ := Aside0.mk (Kd.S_elder' (by (with_reducible repeat (first | apply Kd.S_alloc | apply Kd.S_drewN | apply Kd.S_drew)); exact HO558.out) (Kd.S_base ho0) hb); have n1_ := Aside0.mk (Kd.S_lower (Kd.S_new' ho0 (Kd.S_lt (by (with_reducible repeat (first | apply Kd.S_alloc | apply Kd.S_drewN | apply Kd.S_drew)); exact HO558.out))) (below_size (by repeat (first | (with_reducible first | exact HB.out | apply below_alloc | apply pw_below_drewN | apply below_drew1) | exact HB.out)))); have n2_ := Aside0.mk (below_step (by repeat (first | (with_reducible first | exact HB.out | apply below_alloc | apply pw_below_drewN | apply below_drew1) | exact HB.out)) hb); clear HO558; clear HB; have HO558 := n0_; have HO563 := n1_; have HB := n2_; clear n0_ n1_ n2_; (try clear hb); (try clear hb2); (try clear hk); (try clear hi); (try clear ho0); obtain ⟨Ao61, co61, eo61⟩ := Kd.S_slice HO563.out; subst eo61) | ((with_reducible refine gate_callee (f := 16) rfl ?_); refine goesL_ (some 63) rfl rfl Tryz.func16 (by kernel_rfl) rfl #[.slice Ao61 t561.length co61] rfl (by (try simp only [List.map_toArray, List.map_cons, List.map_nil]); first | done | rfl | (simp only [List.length_drop, List.length_take]; rfl)) ?_; (with_reducible refine (client_Print.calls _ _ t561 t564 t565 _ ?side1 ?side2 A33.out).mono ?_); (case side1 => repeat (first | exact (Kd.S_reads' HO563.out).2.2 | (with_reducible refine Kd.C_alloc ?_ _) | (with_reducible refine Kd.C_drewN ?_ _) | (with_reducible refine Kd.C_drew ?_))); (case side2 => exact (Kd.S_reads' HO563.out).2.1); rintro e w62 ⟨rfl, hb⟩; refine ⟨_, rfl, ?_⟩; have n0_ := Aside0.mk (Kd.S_below (by (with_reducible repeat (first | apply Kd.S_alloc | apply Kd.S_drewN | apply Kd.S_drew)); exact HO558.out) hb); have n1_ := Aside0.mk (Kd.S_below (by (with_reducible repeat (first | apply Kd.S_alloc | apply Kd.S_drewN | apply Kd.S_drew)); exact HO563.out) hb); have n2_ := Aside0.mk (below_step (by repeat (first | (with_reducible first | exact HB.out | apply below_alloc | apply pw_below_drewN | apply below_drew1) | exact HB.out)) hb); clear HO558; clear HO563; clear HB; have HO558 := n0_; have HO563 := n1_; have HB := n2_; clear n0_ n1_ n2_; (try clear hb); (try clear hb2); (try clear hk); (try clear hi)) | ((with_reducible refine gate_callee (f := 19) rfl ?_); refine goesL_ (some 67) rfl rfl Tryz.func19 (by kernel_rfl) rfl #[.int .i64 t565] rfl (by (try simp only [List.map_toArray, List.map_cons, List.map_nil]); first | done | rfl | (simp only [List.length_drop, List.length_take]; rfl)) ?_; (with_reducible refine (wicketlaw11_num.calls t565 t566 _ A34.out).mono ?_); rintro e w' ⟨rfl, ⟨nd, rfl⟩⟩; refine ⟨_, rfl, ?_⟩) | ((with_reducible refine gate_callee (f := 22) rfl ?_); refine goesL_ (some 76) rfl rfl Tryz.func22 (by kernel_rfl) rfl #[.string t564] rfl (by (try simp only [List.map_toArray, List.map_cons, List.map_nil]); first | done | rfl | (simp only [List.length_drop, List.length_take]; rfl)) ?_; (with_reducible refine (client_Parse.calls kj5 t564 t568 t569 t570 _ A49.out).mono ?_); rintro e w63 ⟨v571, rfl, ho0, hb⟩; refine ⟨_, rfl, ?_⟩; have n0_ := Aside0.mk (Kd.S_elder' (by (with_reducible repeat (first | apply Kd.S_alloc | apply Kd.S_drewN | apply Kd.S_drew)); exact HO558.out) (Kd.S_base ho0) hb); have n1_ := Aside0.mk (Kd.S_elder' (by (with_reducible repeat (first | apply Kd.S_alloc | apply Kd.S_drewN | apply Kd.S_drew)); exact HO563.out) (Kd.S_base ho0) hb); have n2_ := Aside0.mk (Kd.S_lower (Kd.S_new' (Kd.S_new' ho0 (Kd.S_lt (by (with_reducible repeat (first | apply Kd.S_alloc | apply Kd.S_drewN | apply Kd.S_drew)); exact HO558.out))) (Kd.S_lt (by (with_reducible repeat (first | apply Kd.S_alloc | apply Kd.S_drewN | apply Kd.S_drew)); exact HO563.out))) (below_size (by repeat (first | (with_reducible first | exact HB.out | apply below_alloc | apply pw_below_drewN | apply below_drew1) | exact HB.out)))); have n3_ := Aside0.mk (below_step (by repeat (first | (with_reducible first | exact HB.out | apply below_alloc | apply pw_below_drewN | apply below_drew1) | exact HB.out)) hb); clear HO558; clear HO563; clear HB; have HO558 := n0_; have HO563 := n1_; have HO572 := n2_; have HB := n3_; clear n0_ n1_ n2_ n3_; (try clear hb); (try clear hb2); (try clear hk); (try clear hi); (try clear ho0)) | ((with_reducible refine gate_callee (f := 19) rfl ?_); refine goesL_ (some 81) rfl rfl Tryz.func19 (by kernel_rfl) rfl #[.int .i64 t565] rfl (by (try simp only [List.map_toArray, List.map_cons, List.map_nil]); first | done | rfl | (simp only [List.length_drop, List.length_take]; rfl)) ?_; (with_reducible refine (wicketlaw11_num.calls t565 t573 _ A50.out).mono ?_); rintro e w' ⟨rfl, ⟨nd, rfl⟩⟩; refine ⟨_, rfl, ?_⟩) | (go_at_call 19; (with_reducible refine (wicketlaw11_num.calls t569 t574 _ A52.out).mono ?_); rintro e w' ⟨rfl, ⟨nd, rfl⟩⟩) | (go_at_call 18; (with_reducible refine (wicketlaw11_all.calls kj5 _ _ t554 t575 _ ?side1 ?side2 A54.out).mono ?_); (case side1 => repeat (first | exact (Kd.S_reads' HO558.out).2.2 | (with_reducible refine Kd.C_alloc ?_ _) | (with_reducible refine Kd.C_drewN ?_ _) | (with_reducible refine Kd.C_drew ?_))); (case side2 => exact (Kd.S_reads' HO558.out).2.1); rintro e w64 ⟨v576, rfl, ho0, hb⟩; have n0_ := Aside0.mk (Kd.S_below (by (with_reducible repeat (first | apply Kd.S_alloc | apply Kd.S_drewN | apply Kd.S_drew)); exact HO558.out) hb); have n1_ := Aside0.mk (Kd.S_below (by (with_reducible repeat (first | apply Kd.S_alloc | apply Kd.S_drewN | apply Kd.S_drew)); exact HO563.out) hb); have n2_ := Aside0.mk (Kd.S_below (by (with_reducible repeat (first | apply Kd.S_alloc | apply Kd.S_drewN | apply Kd.S_drew)); exact HO572.out) hb); have n3_ := Aside0.mk (Kd.S_lower ho0 (below_size (by repeat (first | (with_reducible first | exact HB.out | apply below_alloc | apply pw_below_drewN | apply below_drew1) | exact HB.out)))); have n4_ := Aside0.mk (below_step (by repeat (first | (with_reducible first | exact HB.out | apply below_alloc | apply pw_below_drewN | apply below_drew1) | exact HB.out)) hb); clear HO558; clear HO563; clear HO572; clear HB; have HO558 := n0_; have HO563 := n1_; have HO572 := n2_; have HO577 := n3_; have HB := n4_; clear n0_ n1_ n2_ n3_ n4_; (try clear hb); (try clear hb2); (try clear hk); (try clear hi); (try clear ho0); obtain ⟨Ao65, co65, eo65⟩ := Kd.S_slice HO572.out; subst eo65; obtain ⟨Ao66, co66, eo66⟩ := Kd.S_slice HO577.out; subst eo66) | (go_at_call 20; (with_reducible refine (wicketlaw11_list.calls kj5 _ _ t568 _ _ t575 true _ ?side1 ?side2 ?side3 ?side4 A55.out).mono ?_); (case side1 => repeat (first | exact (Kd.S_reads' HO572.out).2.2 | (with_reducible refine Kd.C_alloc ?_ _) | (with_reducible refine Kd.C_drewN ?_ _) | (with_reducible refine Kd.C_drew ?_))); (case side2 => exact (Kd.S_reads' HO572.out).2.1); (case side3 => repeat (first | exact (Kd.S_reads' HO577.out).2.2 | (with_reducible refine Kd.C_alloc ?_ _) | (with_reducible refine Kd.C_drewN ?_ _) | (with_reducible refine Kd.C_drew ?_))); (case side4 => exact (Kd.S_reads' HO577.out).2.1); rintro e w67 ⟨rfl, hb⟩; have n0_ := Aside0.mk (Kd.S_below (by (with_reducible repeat (first | apply Kd.S_alloc | apply Kd.S_drewN | apply Kd.S_drew)); exact HO558.out) hb); have n1_ := Aside0.mk (Kd.S_below (by (with_reducible repeat (first | apply Kd.S_alloc | apply Kd.S_drewN | apply Kd.S_drew)); exact HO563.out) hb); have n2_ := Aside0.mk (Kd.S_below (by (with_reducible repeat (first | apply Kd.S_alloc | apply Kd.S_drewN | apply Kd.S_drew)); exact HO572.out) hb); have n3_ := Aside0.mk (Kd.S_below (by (with_reducible repeat (first | apply Kd.S_alloc | apply Kd.S_drewN | apply Kd.S_drew)); exact HO577.out) hb); have n4_ := Aside0.mk (below_step (by repeat (first | (with_reducible first | exact HB.out | apply below_alloc | apply pw_below_drewN | apply below_drew1) | exact HB.out)) hb); clear HO558; clear HO563; clear HO572; clear HO577; clear HB; have HO558 := n0_; have HO563 := n1_; have HO572 := n2_; have HO577 := n3_; have HB := n4_; clear n0_ n1_ n2_ n3_ n4_; (try clear hb); (try clear hb2); (try clear hk); (try clear hi)) | (go_at_call 21; (with_reducible refine (wicketlaw11_live.calls  t579 _ A57.out).mono ?_); rintro e w68 ⟨rfl, hb⟩; have n0_ := Aside0.mk (Kd.S_below (by (with_reducible repeat (first | apply Kd.S_alloc | apply Kd.S_drewN | apply Kd.S_drew)); exact HO558.out) hb); have n1_ := Aside0.mk (Kd.S_below (by (with_reducible repeat (first | apply Kd.S_alloc | apply Kd.S_drewN | apply Kd.S_drew)); exact HO563.out) hb); have n2_ := Aside0.mk (Kd.S_below (by (with_reducible repeat (first | apply Kd.S_alloc | apply Kd.S_drewN | apply Kd.S_drew)); exact HO572.out) hb); have n3_ := Aside0.mk (Kd.S_below (by (with_reducible repeat (first | apply Kd.S_alloc | apply Kd.S_drewN | apply Kd.S_drew)); exact HO577.out) hb); have n4_ := Aside0.mk (below_step (by repeat (first | (with_reducible first | exact HB.out | apply below_alloc | apply pw_below_drewN | apply below_drew1) | exact HB.out)) hb); clear HO558; clear HO563; clear HO572; clear HO577; clear HB; have HO558 := n0_; have HO563 := n1_; have HO572 := n2_; have HO577 := n3_; have HB := n4_; clear n0_ n1_ n2_ n3_ n4_; (try clear hb); (try clear hb2); (try clear hk); (try clear hi)))
                go_ret
                exact ⟨by first | rfl | (simp [errW_none, errW_some] <;> rfl) | (simp [*, errW_none, errW_some] <;> rfl) | (simp; (generalize ByteArray.toList _ = z_); cases z_ <;> rfl), by repeat (first | (with_reducible first | exact HB.out | apply below_alloc | apply pw_below_drewN | apply below_drew1) | exact HB.out)⟩
              · replace c56 := Bool.eq_false_iff.mpr c56
                subst c56
                have H1 : (some false) = some r := by rw [if_neg (show ¬ (false = true) by decide)] at H; exact H
                clear H
                have H := H1
                clear H1
                obtain rfl := Option.some.inj H
                go_wp2_with (first | ((with_reducible refine gate_callee (f := 22) rfl ?_); refine goesL_ (some 47) rfl rfl Tryz.func22 (by kernel_rfl) rfl #[.string a1] rfl (by (try simp only [List.map_toArray, List.map_cons, List.map_nil]); first | done | rfl | (simp only [List.length_drop, List.length_take]; rfl)) ?_; (with_reducible refine (client_Parse.calls kj5 a1 t554 t555 t556 _ A29.out).mono ?_); rintro e w69 ⟨v557, rfl, ho0, hb⟩; refine ⟨_, rfl, ?_⟩; have n0_ := Aside0.mk (Kd.S_lower ho0 (below_size (by repeat (first | (with_reducible first | exact HB.out | apply below_alloc | apply pw_below_drewN | apply below_drew1) | exact HB.out)))); have n1_ := Aside0.mk (below_step (by repeat (first | (with_reducible first | exact HB.out | apply below_alloc | apply pw_below_drewN | apply below_drew1) | exact HB.out)) hb); clear HB; have HO558 := n0_; have HB := n1_; clear n0_ n1_; (try clear hb); (try clear hb2); (try clear hk); (try clear hi); (try clear ho0)) | ((with_reducible refine gate_callee (f := 19) rfl ?_); refine goesL_ (some 52) rfl rfl Tryz.func19 (by kernel_rfl) rfl #[.int .i64 t555] rfl (by (try simp only [List.map_toArray, List.map_cons, List.map_nil]); first | done | rfl | (simp only [List.length_drop, List.length_take]; rfl)) ?_; (with_reducible refine (wicketlaw11_num.calls t555 t559 _ A30.out).mono ?_); rintro e w' ⟨rfl, ⟨nd, rfl⟩⟩; refine ⟨_, rfl, ?_⟩; obtain ⟨Ao70, co70, eo70⟩ := Kd.S_slice HO558.out; subst eo70) | ((with_reducible refine gate_callee (f := 15) rfl ?_); refine goesL_ (some 62) rfl rfl Tryz.func15 (by kernel_rfl) rfl #[.slice Ao70 t554.length co70] rfl (by (try simp only [List.map_toArray, List.map_cons, List.map_nil]); first | done | rfl | (simp only [List.length_drop, List.length_take]; rfl)) ?_; (with_reducible refine (wicketlaw11_copied.calls kj5 _ _ t554 t561 _ ?side1 ?side2 A32.out).mono ?_); (case side1 => repeat (first | exact (Kd.S_reads' HO558.out).2.2 | (with_reducible refine Kd.C_alloc ?_ _) | (with_reducible refine Kd.C_drewN ?_ _) | (with_reducible refine Kd.C_drew ?_))); (case side2 => exact (Kd.S_reads' HO558.out).2.1); rintro e w71 ⟨v562, rfl, ho0, hb⟩; refine ⟨_, rfl, ?_⟩; have n0_ := Aside0.mk (Kd.S_elder' (by (with_reducible repeat (first | apply Kd.S_alloc | apply Kd.S_drewN | apply Kd.S_drew)); exact HO558.out) (Kd.S_base ho0) hb); have n1_ := Aside0.mk (Kd.S_lower (Kd.S_new' ho0 (Kd.S_lt (by (with_reducible repeat (first | apply Kd.S_alloc | apply Kd.S_drewN | apply Kd.S_drew)); exact HO558.out))) (below_size (by repeat (first | (with_reducible first | exact HB.out | apply below_alloc | apply pw_below_drewN | apply below_drew1) | exact HB.out)))); have n2_ := Aside0.mk (below_step (by repeat (first | (with_reducible first | exact HB.out | apply below_alloc | apply pw_below_drewN | apply below_drew1) | exact HB.out)) hb); clear HO558; clear HB; have HO558 := n0_; have HO563 := n1_; have HB := n2_; clear n0_ n1_ n2_; (try clear hb); (try clear hb2); (try clear hk); (try clear hi); (try clear ho0); obtain ⟨Ao72, co72, eo72⟩ := Kd.S_slice HO563.out; subst eo72) | ((with_reducible refine gate_callee (f := 16) rfl ?_); refine goesL_ (some 63) rfl rfl Tryz.func16 (by kernel_rfl) rfl #[.slice Ao72 t561.length co72] rfl (by (try simp only [List.map_toArray, List.map_cons, List.map_nil]); first | done | rfl | (simp only [List.length_drop, List.length_take]; rfl)) ?_; (with_reducible refine (client_Print.calls _ _ t561 t564 t565 _ ?side1 ?side2 A33.out).mono ?_); (case side1 => repeat (first | exact (Kd.S_reads' HO563.out).2.2 | (with_reducible refine Kd.C_alloc ?_ _) | (with_reducible refine Kd.C_drewN ?_ _) | (with_reducible refine Kd.C_drew ?_))); (case side2 => exact (Kd.S_reads' HO563.out).2.1); rintro e w73 ⟨rfl, hb⟩; refine ⟨_, rfl, ?_⟩; have n0_ := Aside0.mk (Kd.S_below (by (with_reducible repeat (first | apply Kd.S_alloc | apply Kd.S_drewN | apply Kd.S_drew)); exact HO558.out) hb); have n1_ := Aside0.mk (Kd.S_below (by (with_reducible repeat (first | apply Kd.S_alloc | apply Kd.S_drewN | apply Kd.S_drew)); exact HO563.out) hb); have n2_ := Aside0.mk (below_step (by repeat (first | (with_reducible first | exact HB.out | apply below_alloc | apply pw_below_drewN | apply below_drew1) | exact HB.out)) hb); clear HO558; clear HO563; clear HB; have HO558 := n0_; have HO563 := n1_; have HB := n2_; clear n0_ n1_ n2_; (try clear hb); (try clear hb2); (try clear hk); (try clear hi)) | ((with_reducible refine gate_callee (f := 19) rfl ?_); refine goesL_ (some 67) rfl rfl Tryz.func19 (by kernel_rfl) rfl #[.int .i64 t565] rfl (by (try simp only [List.map_toArray, List.map_cons, List.map_nil]); first | done | rfl | (simp only [List.length_drop, List.length_take]; rfl)) ?_; (with_reducible refine (wicketlaw11_num.calls t565 t566 _ A34.out).mono ?_); rintro e w' ⟨rfl, ⟨nd, rfl⟩⟩; refine ⟨_, rfl, ?_⟩) | ((with_reducible refine gate_callee (f := 22) rfl ?_); refine goesL_ (some 76) rfl rfl Tryz.func22 (by kernel_rfl) rfl #[.string t564] rfl (by (try simp only [List.map_toArray, List.map_cons, List.map_nil]); first | done | rfl | (simp only [List.length_drop, List.length_take]; rfl)) ?_; (with_reducible refine (client_Parse.calls kj5 t564 t568 t569 t570 _ A49.out).mono ?_); rintro e w74 ⟨v571, rfl, ho0, hb⟩; refine ⟨_, rfl, ?_⟩; have n0_ := Aside0.mk (Kd.S_elder' (by (with_reducible repeat (first | apply Kd.S_alloc | apply Kd.S_drewN | apply Kd.S_drew)); exact HO558.out) (Kd.S_base ho0) hb); have n1_ := Aside0.mk (Kd.S_elder' (by (with_reducible repeat (first | apply Kd.S_alloc | apply Kd.S_drewN | apply Kd.S_drew)); exact HO563.out) (Kd.S_base ho0) hb); have n2_ := Aside0.mk (Kd.S_lower (Kd.S_new' (Kd.S_new' ho0 (Kd.S_lt (by (with_reducible repeat (first | apply Kd.S_alloc | apply Kd.S_drewN | apply Kd.S_drew)); exact HO558.out))) (Kd.S_lt (by (with_reducible repeat (first | apply Kd.S_alloc | apply Kd.S_drewN | apply Kd.S_drew)); exact HO563.out))) (below_size (by repeat (first | (with_reducible first | exact HB.out | apply below_alloc | apply pw_below_drewN | apply below_drew1) | exact HB.out)))); have n3_ := Aside0.mk (below_step (by repeat (first | (with_reducible first | exact HB.out | apply below_alloc | apply pw_below_drewN | apply below_drew1) | exact HB.out)) hb); clear HO558; clear HO563; clear HB; have HO558 := n0_; have HO563 := n1_; have HO572 := n2_; have HB := n3_; clear n0_ n1_ n2_ n3_; (try clear hb); (try clear hb2); (try clear hk); (try clear hi); (try clear ho0)) | ((with_reducible refine gate_callee (f := 19) rfl ?_); refine goesL_ (some 81) rfl rfl Tryz.func19 (by kernel_rfl) rfl #[.int .i64 t565] rfl (by (try simp only [List.map_toArray, List.map_cons, List.map_nil]); first | done | rfl | (simp only [List.length_drop, List.length_take]; rfl)) ?_; (with_reducible refine (wicketlaw11_num.calls t565 t573 _ A50.out).mono ?_); rintro e w' ⟨rfl, ⟨nd, rfl⟩⟩; refine ⟨_, rfl, ?_⟩) | (go_at_call 19; (with_reducible refine (wicketlaw11_num.calls t569 t574 _ A52.out).mono ?_); rintro e w' ⟨rfl, ⟨nd, rfl⟩⟩) | (go_at_call 18; (with_reducible refine (wicketlaw11_all.calls kj5 _ _ t554 t575 _ ?side1 ?side2 A54.out).mono ?_); (case side1 => repeat (first | exact (Kd.S_reads' HO558.out).2.2 | (with_reducible refine Kd.C_alloc ?_ _) | (with_reducible refine Kd.C_drewN ?_ _) | (with_reducible refine Kd.C_drew ?_))); (case side2 => exact (Kd.S_reads' HO558.out).2.1); rintro e w75 ⟨v576, rfl, ho0, hb⟩; have n0_ := Aside0.mk (Kd.S_below (by (with_reducible repeat (first | apply Kd.S_alloc | apply Kd.S_drewN | apply Kd.S_drew)); exact HO558.out) hb); have n1_ := Aside0.mk (Kd.S_below (by (with_reducible repeat (first | apply Kd.S_alloc | apply Kd.S_drewN | apply Kd.S_drew)); exact HO563.out) hb); have n2_ := Aside0.mk (Kd.S_below (by (with_reducible repeat (first | apply Kd.S_alloc | apply Kd.S_drewN | apply Kd.S_drew)); exact HO572.out) hb); have n3_ := Aside0.mk (Kd.S_lower ho0 (below_size (by repeat (first | (with_reducible first | exact HB.out | apply below_alloc | apply pw_below_drewN | apply below_drew1) | exact HB.out)))); have n4_ := Aside0.mk (below_step (by repeat (first | (with_reducible first | exact HB.out | apply below_alloc | apply pw_below_drewN | apply below_drew1) | exact HB.out)) hb); clear HO558; clear HO563; clear HO572; clear HB; have HO558 := n0_; have HO563 := n1_; have HO572 := n2_; have HO577 := n3_; have HB := n4_; clear n0_ n1_ n2_ n3_ n4_; (try clear hb); (try clear hb2); (try clear hk); (try clear hi); (try clear ho0); obtain ⟨Ao76, co76, eo76⟩ := Kd.S_slice HO572.out; subst eo76; obtain ⟨Ao77, co77, eo77⟩ := Kd.S_slice HO577.out; subst eo77) | (go_at_call 20; (with_reducible refine (wicketlaw11_list.calls kj5 _ _ t568 _ _ t575 false _ ?side1 ?side2 ?side3 ?side4 A55.out).mono ?_); (case side1 => repeat (first | exact (Kd.S_reads' HO572.out).2.2 | (with_reducible refine Kd.C_alloc ?_ _) | (with_reducible refine Kd.C_drewN ?_ _) | (with_reducible refine Kd.C_drew ?_))); (case side2 => exact (Kd.S_reads' HO572.out).2.1); (case side3 => repeat (first | exact (Kd.S_reads' HO577.out).2.2 | (with_reducible refine Kd.C_alloc ?_ _) | (with_reducible refine Kd.C_drewN ?_ _) | (with_reducible refine Kd.C_drew ?_))); (case side4 => exact (Kd.S_reads' HO577.out).2.1); rintro e w78 ⟨rfl, hb⟩; have n0_ := Aside0.mk (Kd.S_below (by (with_reducible repeat (first | apply Kd.S_alloc | apply Kd.S_drewN | apply Kd.S_drew)); exact HO558.out) hb); have n1_ := Aside0.mk (Kd.S_below (by (with_reducible repeat (first | apply Kd.S_alloc | apply Kd.S_drewN | apply Kd.S_drew)); exact HO563.out) hb); have n2_ := Aside0.mk (Kd.S_below (by (with_reducible repeat (first | apply Kd.S_alloc | apply Kd.S_drewN | apply Kd.S_drew)); exact HO572.out) hb); have n3_ := Aside0.mk (Kd.S_below (by (with_reducible repeat (first | apply Kd.S_alloc | apply Kd.S_drewN | apply Kd.S_drew)); exact HO577.out) hb); have n4_ := Aside0.mk (below_step (by repeat (first | (with_reducible first | exact HB.out | apply below_alloc | apply pw_below_drewN | apply below_drew1) | exact HB.out)) hb); clear HO558; clear HO563; clear HO572; clear HO577; clear HB; have HO558 := n0_; have HO563 := n1_; have HO572 := n2_; have HO577 := n3_; have HB := n4_; clear n0_ n1_ n2_ n3_ n4_; (try clear hb); (try clear hb2); (try clear hk); (try clear hi)))
                go_ret
                exact ⟨by first | rfl | (simp [errW_none, errW_some] <;> rfl) | (simp [*, errW_none, errW_some] <;> rfl) | (simp; (generalize ByteArray.toList _ = z_); cases z_ <;> rfl), by repeat (first | (with_reducible first | exact HB.out | apply below_alloc | apply pw_below_drewN | apply below_drew1) | exact HB.out)⟩
            · rw [if_neg c53] at H
              have c53b0 : (t574 == 0) = false := beq_eq_false_iff_ne.mpr c53
              have c53b1 : (t574 != 0) = true := bne_iff_ne.mpr c53
              obtain rfl := Option.some.inj H
              go_wp2_with (first | ((with_reducible refine gate_callee (f := 22) rfl ?_); refine goesL_ (some 47) rfl rfl Tryz.func22 (by kernel_rfl) rfl #[.string a1] rfl (by (try simp only [List.map_toArray, List.map_cons, List.map_nil]); first | done | rfl | (simp only [List.length_drop, List.length_take]; rfl)) ?_; (with_reducible refine (client_Parse.calls kj5 a1 t554 t555 t556 _ A29.out).mono ?_); rintro e w79 ⟨v557, rfl, ho0, hb⟩; refine ⟨_, rfl, ?_⟩; have n0_ := Aside0.mk (Kd.S_lower ho0 (below_size (by repeat (first | (with_reducible first | exact HB.out | apply below_alloc | apply pw_below_drewN | apply below_drew1) | exact HB.out)))); have n1_ := Aside0.mk (below_step (by repeat (first | (with_reducible first | exact HB.out | apply below_alloc | apply pw_below_drewN | apply below_drew1) | exact HB.out)) hb); clear HB; have HO558 := n0_; have HB := n1_; clear n0_ n1_; (try clear hb); (try clear hb2); (try clear hk); (try clear hi); (try clear ho0)) | ((with_reducible refine gate_callee (f := 19) rfl ?_); refine goesL_ (some 52) rfl rfl Tryz.func19 (by kernel_rfl) rfl #[.int .i64 t555] rfl (by (try simp only [List.map_toArray, List.map_cons, List.map_nil]); first | done | rfl | (simp only [List.length_drop, List.length_take]; rfl)) ?_; (with_reducible refine (wicketlaw11_num.calls t555 t559 _ A30.out).mono ?_); rintro e w' ⟨rfl, ⟨nd, rfl⟩⟩; refine ⟨_, rfl, ?_⟩; obtain ⟨Ao80, co80, eo80⟩ := Kd.S_slice HO558.out; subst eo80) | ((with_reducible refine gate_callee (f := 15) rfl ?_); refine goesL_ (some 62) rfl rfl Tryz.func15 (by kernel_rfl) rfl #[.slice Ao80 t554.length co80] rfl (by (try simp only [List.map_toArray, List.map_cons, List.map_nil]); first | done | rfl | (simp only [List.length_drop, List.length_take]; rfl)) ?_; (with_reducible refine (wicketlaw11_copied.calls kj5 _ _ t554 t561 _ ?side1 ?side2 A32.out).mono ?_); (case side1 => repeat (first | exact (Kd.S_reads' HO558.out).2.2 | (with_reducible refine Kd.C_alloc ?_ _) | (with_reducible refine Kd.C_drewN ?_ _) | (with_reducible refine Kd.C_drew ?_))); (case side2 => exact (Kd.S_reads' HO558.out).2.1); rintro e w81 ⟨v562, rfl, ho0, hb⟩; refine ⟨_, rfl, ?_⟩; have n0_ := Aside0.mk (Kd.S_elder' (by (with_reducible repeat (first | apply Kd.S_alloc | apply Kd.S_drewN | apply Kd.S_drew)); exact HO558.out) (Kd.S_base ho0) hb); have n1_ := Aside0.mk (Kd.S_lower (Kd.S_new' ho0 (Kd.S_lt (by (with_reducible repeat (first | apply Kd.S_alloc | apply Kd.S_drewN | apply Kd.S_drew)); exact HO558.out))) (below_size (by repeat (first | (with_reducible first | exact HB.out | apply below_alloc | apply pw_below_drewN | apply below_drew1) | exact HB.out)))); have n2_ := Aside0.mk (below_step (by repeat (first | (with_reducible first | exact HB.out | apply below_alloc | apply pw_below_drewN | apply below_drew1) | exact HB.out)) hb); clear HO558; clear HB; have HO558 := n0_; have HO563 := n1_; have HB := n2_; clear n0_ n1_ n2_; (try clear hb); (try clear hb2); (try clear hk); (try clear hi); (try clear ho0); obtain ⟨Ao82, co82, eo82⟩ := Kd.S_slice HO563.out; subst eo82) | ((with_reducible refine gate_callee (f := 16) rfl ?_); refine goesL_ (some 63) rfl rfl Tryz.func16 (by kernel_rfl) rfl #[.slice Ao82 t561.length co82] rfl (by (try simp only [List.map_toArray, List.map_cons, List.map_nil]); first | done | rfl | (simp only [List.length_drop, List.length_take]; rfl)) ?_; (with_reducible refine (client_Print.calls _ _ t561 t564 t565 _ ?side1 ?side2 A33.out).mono ?_); (case side1 => repeat (first | exact (Kd.S_reads' HO563.out).2.2 | (with_reducible refine Kd.C_alloc ?_ _) | (with_reducible refine Kd.C_drewN ?_ _) | (with_reducible refine Kd.C_drew ?_))); (case side2 => exact (Kd.S_reads' HO563.out).2.1); rintro e w83 ⟨rfl, hb⟩; refine ⟨_, rfl, ?_⟩; have n0_ := Aside0.mk (Kd.S_below (by (with_reducible repeat (first | apply Kd.S_alloc | apply Kd.S_drewN | apply Kd.S_drew)); exact HO558.out) hb); have n1_ := Aside0.mk (Kd.S_below (by (with_reducible repeat (first | apply Kd.S_alloc | apply Kd.S_drewN | apply Kd.S_drew)); exact HO563.out) hb); have n2_ := Aside0.mk (below_step (by repeat (first | (with_reducible first | exact HB.out | apply below_alloc | apply pw_below_drewN | apply below_drew1) | exact HB.out)) hb); clear HO558; clear HO563; clear HB; have HO558 := n0_; have HO563 := n1_; have HB := n2_; clear n0_ n1_ n2_; (try clear hb); (try clear hb2); (try clear hk); (try clear hi)) | ((with_reducible refine gate_callee (f := 19) rfl ?_); refine goesL_ (some 67) rfl rfl Tryz.func19 (by kernel_rfl) rfl #[.int .i64 t565] rfl (by (try simp only [List.map_toArray, List.map_cons, List.map_nil]); first | done | rfl | (simp only [List.length_drop, List.length_take]; rfl)) ?_; (with_reducible refine (wicketlaw11_num.calls t565 t566 _ A34.out).mono ?_); rintro e w' ⟨rfl, ⟨nd, rfl⟩⟩; refine ⟨_, rfl, ?_⟩) | ((with_reducible refine gate_callee (f := 22) rfl ?_); refine goesL_ (some 76) rfl rfl Tryz.func22 (by kernel_rfl) rfl #[.string t564] rfl (by (try simp only [List.map_toArray, List.map_cons, List.map_nil]); first | done | rfl | (simp only [List.length_drop, List.length_take]; rfl)) ?_; (with_reducible refine (client_Parse.calls kj5 t564 t568 t569 t570 _ A49.out).mono ?_); rintro e w84 ⟨v571, rfl, ho0, hb⟩; refine ⟨_, rfl, ?_⟩; have n0_ := Aside0.mk (Kd.S_elder' (by (with_reducible repeat (first | apply Kd.S_alloc | apply Kd.S_drewN | apply Kd.S_drew)); exact HO558.out) (Kd.S_base ho0) hb); have n1_ := Aside0.mk (Kd.S_elder' (by (with_reducible repeat (first | apply Kd.S_alloc | apply Kd.S_drewN | apply Kd.S_drew)); exact HO563.out) (Kd.S_base ho0) hb); have n2_ := Aside0.mk (Kd.S_lower (Kd.S_new' (Kd.S_new' ho0 (Kd.S_lt (by (with_reducible repeat (first | apply Kd.S_alloc | apply Kd.S_drewN | apply Kd.S_drew)); exact HO558.out))) (Kd.S_lt (by (with_reducible repeat (first | apply Kd.S_alloc | apply Kd.S_drewN | apply Kd.S_drew)); exact HO563.out))) (below_size (by repeat (first | (with_reducible first | exact HB.out | apply below_alloc | apply pw_below_drewN | apply below_drew1) | exact HB.out)))); have n3_ := Aside0.mk (below_step (by repeat (first | (with_reducible first | exact HB.out | apply below_alloc | apply pw_below_drewN | apply below_drew1) | exact HB.out)) hb); clear HO558; clear HO563; clear HB; have HO558 := n0_; have HO563 := n1_; have HO572 := n2_; have HB := n3_; clear n0_ n1_ n2_ n3_; (try clear hb); (try clear hb2); (try clear hk); (try clear hi); (try clear ho0)) | ((with_reducible refine gate_callee (f := 19) rfl ?_); refine goesL_ (some 81) rfl rfl Tryz.func19 (by kernel_rfl) rfl #[.int .i64 t565] rfl (by (try simp only [List.map_toArray, List.map_cons, List.map_nil]); first | done | rfl | (simp only [List.length_drop, List.length_take]; rfl)) ?_; (with_reducible refine (wicketlaw11_num.calls t565 t573 _ A50.out).mono ?_); rintro e w' ⟨rfl, ⟨nd, rfl⟩⟩; refine ⟨_, rfl, ?_⟩) | (go_at_call 19; (with_reducible refine (wicketlaw11_num.calls t569 t574 _ A52.out).mono ?_); rintro e w' ⟨rfl, ⟨nd, rfl⟩⟩))
              go_ret
              exact ⟨by first | rfl | (simp [errW_none, errW_some] <;> rfl) | (simp [*, errW_none, errW_some] <;> rfl) | (simp; (generalize ByteArray.toList _ = z_); cases z_ <;> rfl), by repeat (first | (with_reducible first | exact HB.out | apply below_alloc | apply pw_below_drewN | apply below_drew1) | exact HB.out)⟩
          · rw [if_neg c51] at H
            have c51b0 : (t573 == 0) = false := beq_eq_false_iff_ne.mpr c51
            have c51b1 : (t573 != 0) = true := bne_iff_ne.mpr c51
            obtain rfl := Option.some.inj H
            go_wp2_with (first | ((with_reducible refine gate_callee (f := 22) rfl ?_); refine goesL_ (some 47) rfl rfl Tryz.func22 (by kernel_rfl) rfl #[.string a1] rfl (by (try simp only [List.map_toArray, List.map_cons, List.map_nil]); first | done | rfl | (simp only [List.length_drop, List.length_take]; rfl)) ?_; (with_reducible refine (client_Parse.calls kj5 a1 t554 t555 t556 _ A29.out).mono ?_); rintro e w85 ⟨v557, rfl, ho0, hb⟩; refine ⟨_, rfl, ?_⟩; have n0_ := Aside0.mk (Kd.S_lower ho0 (below_size (by repeat (first | (with_reducible first | exact HB.out | apply below_alloc | apply pw_below_drewN | apply below_drew1) | exact HB.out)))); have n1_ := Aside0.mk (below_step (by repeat (first | (with_reducible first | exact HB.out | apply below_alloc | apply pw_below_drewN | apply below_drew1) | exact HB.out)) hb); clear HB; have HO558 := n0_; have HB := n1_; clear n0_ n1_; (try clear hb); (try clear hb2); (try clear hk); (try clear hi); (try clear ho0)) | ((with_reducible refine gate_callee (f := 19) rfl ?_); refine goesL_ (some 52) rfl rfl Tryz.func19 (by kernel_rfl) rfl #[.int .i64 t555] rfl (by (try simp only [List.map_toArray, List.map_cons, List.map_nil]); first | done | rfl | (simp only [List.length_drop, List.length_take]; rfl)) ?_; (with_reducible refine (wicketlaw11_num.calls t555 t559 _ A30.out).mono ?_); rintro e w' ⟨rfl, ⟨nd, rfl⟩⟩; refine ⟨_, rfl, ?_⟩; obtain ⟨Ao86, co86, eo86⟩ := Kd.S_slice HO558.out; subst eo86) | ((with_reducible refine gate_callee (f := 15) rfl ?_); refine goesL_ (some 62) rfl rfl Tryz.func15 (by kernel_rfl) rfl #[.slice Ao86 t554.length co86] rfl (by (try simp only [List.map_toArray, List.map_cons, List.map_nil]); first | done | rfl | (simp only [List.length_drop, List.length_take]; rfl)) ?_; (with_reducible refine (wicketlaw11_copied.calls kj5 _ _ t554 t561 _ ?side1 ?side2 A32.out).mono ?_); (case side1 => repeat (first | exact (Kd.S_reads' HO558.out).2.2 | (with_reducible refine Kd.C_alloc ?_ _) | (with_reducible refine Kd.C_drewN ?_ _) | (with_reducible refine Kd.C_drew ?_))); (case side2 => exact (Kd.S_reads' HO558.out).2.1); rintro e w87 ⟨v562, rfl, ho0, hb⟩; refine ⟨_, rfl, ?_⟩; have n0_ := Aside0.mk (Kd.S_elder' (by (with_reducible repeat (first | apply Kd.S_alloc | apply Kd.S_drewN | apply Kd.S_drew)); exact HO558.out) (Kd.S_base ho0) hb); have n1_ := Aside0.mk (Kd.S_lower (Kd.S_new' ho0 (Kd.S_lt (by (with_reducible repeat (first | apply Kd.S_alloc | apply Kd.S_drewN | apply Kd.S_drew)); exact HO558.out))) (below_size (by repeat (first | (with_reducible first | exact HB.out | apply below_alloc | apply pw_below_drewN | apply below_drew1) | exact HB.out)))); have n2_ := Aside0.mk (below_step (by repeat (first | (with_reducible first | exact HB.out | apply below_alloc | apply pw_below_drewN | apply below_drew1) | exact HB.out)) hb); clear HO558; clear HB; have HO558 := n0_; have HO563 := n1_; have HB := n2_; clear n0_ n1_ n2_; (try clear hb); (try clear hb2); (try clear hk); (try clear hi); (try clear ho0); obtain ⟨Ao88, co88, eo88⟩ := Kd.S_slice HO563.out; subst eo88) | ((with_reducible refine gate_callee (f := 16) rfl ?_); refine goesL_ (some 63) rfl rfl Tryz.func16 (by kernel_rfl) rfl #[.slice Ao88 t561.length co88] rfl (by (try simp only [List.map_toArray, List.map_cons, List.map_nil]); first | done | rfl | (simp only [List.length_drop, List.length_take]; rfl)) ?_; (with_reducible refine (client_Print.calls _ _ t561 t564 t565 _ ?side1 ?side2 A33.out).mono ?_); (case side1 => repeat (first | exact (Kd.S_reads' HO563.out).2.2 | (with_reducible refine Kd.C_alloc ?_ _) | (with_reducible refine Kd.C_drewN ?_ _) | (with_reducible refine Kd.C_drew ?_))); (case side2 => exact (Kd.S_reads' HO563.out).2.1); rintro e w89 ⟨rfl, hb⟩; refine ⟨_, rfl, ?_⟩; have n0_ := Aside0.mk (Kd.S_below (by (with_reducible repeat (first | apply Kd.S_alloc | apply Kd.S_drewN | apply Kd.S_drew)); exact HO558.out) hb); have n1_ := Aside0.mk (Kd.S_below (by (with_reducible repeat (first | apply Kd.S_alloc | apply Kd.S_drewN | apply Kd.S_drew)); exact HO563.out) hb); have n2_ := Aside0.mk (below_step (by repeat (first | (with_reducible first | exact HB.out | apply below_alloc | apply pw_below_drewN | apply below_drew1) | exact HB.out)) hb); clear HO558; clear HO563; clear HB; have HO558 := n0_; have HO563 := n1_; have HB := n2_; clear n0_ n1_ n2_; (try clear hb); (try clear hb2); (try clear hk); (try clear hi)) | ((with_reducible refine gate_callee (f := 19) rfl ?_); refine goesL_ (some 67) rfl rfl Tryz.func19 (by kernel_rfl) rfl #[.int .i64 t565] rfl (by (try simp only [List.map_toArray, List.map_cons, List.map_nil]); first | done | rfl | (simp only [List.length_drop, List.length_take]; rfl)) ?_; (with_reducible refine (wicketlaw11_num.calls t565 t566 _ A34.out).mono ?_); rintro e w' ⟨rfl, ⟨nd, rfl⟩⟩; refine ⟨_, rfl, ?_⟩) | ((with_reducible refine gate_callee (f := 22) rfl ?_); refine goesL_ (some 76) rfl rfl Tryz.func22 (by kernel_rfl) rfl #[.string t564] rfl (by (try simp only [List.map_toArray, List.map_cons, List.map_nil]); first | done | rfl | (simp only [List.length_drop, List.length_take]; rfl)) ?_; (with_reducible refine (client_Parse.calls kj5 t564 t568 t569 t570 _ A49.out).mono ?_); rintro e w90 ⟨v571, rfl, ho0, hb⟩; refine ⟨_, rfl, ?_⟩; have n0_ := Aside0.mk (Kd.S_elder' (by (with_reducible repeat (first | apply Kd.S_alloc | apply Kd.S_drewN | apply Kd.S_drew)); exact HO558.out) (Kd.S_base ho0) hb); have n1_ := Aside0.mk (Kd.S_elder' (by (with_reducible repeat (first | apply Kd.S_alloc | apply Kd.S_drewN | apply Kd.S_drew)); exact HO563.out) (Kd.S_base ho0) hb); have n2_ := Aside0.mk (Kd.S_lower (Kd.S_new' (Kd.S_new' ho0 (Kd.S_lt (by (with_reducible repeat (first | apply Kd.S_alloc | apply Kd.S_drewN | apply Kd.S_drew)); exact HO558.out))) (Kd.S_lt (by (with_reducible repeat (first | apply Kd.S_alloc | apply Kd.S_drewN | apply Kd.S_drew)); exact HO563.out))) (below_size (by repeat (first | (with_reducible first | exact HB.out | apply below_alloc | apply pw_below_drewN | apply below_drew1) | exact HB.out)))); have n3_ := Aside0.mk (below_step (by repeat (first | (with_reducible first | exact HB.out | apply below_alloc | apply pw_below_drewN | apply below_drew1) | exact HB.out)) hb); clear HO558; clear HO563; clear HB; have HO558 := n0_; have HO563 := n1_; have HO572 := n2_; have HB := n3_; clear n0_ n1_ n2_ n3_; (try clear hb); (try clear hb2); (try clear hk); (try clear hi); (try clear ho0)) | ((with_reducible refine gate_callee (f := 19) rfl ?_); refine goesL_ (some 81) rfl rfl Tryz.func19 (by kernel_rfl) rfl #[.int .i64 t565] rfl (by (try simp only [List.map_toArray, List.map_cons, List.map_nil]); first | done | rfl | (simp only [List.length_drop, List.length_take]; rfl)) ?_; (with_reducible refine (wicketlaw11_num.calls t565 t573 _ A50.out).mono ?_); rintro e w' ⟨rfl, ⟨nd, rfl⟩⟩; refine ⟨_, rfl, ?_⟩))
            go_ret
            exact ⟨by first | rfl | (simp [errW_none, errW_some] <;> rfl) | (simp [*, errW_none, errW_some] <;> rfl) | (simp; (generalize ByteArray.toList _ = z_); cases z_ <;> rfl), by repeat (first | (with_reducible first | exact HB.out | apply below_alloc | apply pw_below_drewN | apply below_drew1) | exact HB.out)⟩
      · rw [if_neg c31] at H
        have c31b0 : (t559 == 0) = false := beq_eq_false_iff_ne.mpr c31
        have c31b1 : (t559 != 0) = true := bne_iff_ne.mpr c31
        by_cases c91 : (t554.length : Int) = 0
        · rw [if_pos c91] at H
          have c91b0 : ((t554.length : Int) == 0) = true := beq_iff_eq.mpr c91
          have c91b1 : ((t554.length : Int) != 0) = false := bne_eq_false_iff_eq.mpr c91
          clear c91
          replace H := Option.bind_eq_some_iff.mp H
          obtain ⟨t560, A920, H⟩ := H
          replace H : (some t560) = some r := H
          have A92 := Aside0.mk A920
          clear A920
          obtain rfl := Option.some.inj H
          go_wp2_with (first | ((with_reducible refine gate_callee (f := 22) rfl ?_); refine goesL_ (some 47) rfl rfl Tryz.func22 (by kernel_rfl) rfl #[.string a1] rfl (by (try simp only [List.map_toArray, List.map_cons, List.map_nil]); first | done | rfl | (simp only [List.length_drop, List.length_take]; rfl)) ?_; (with_reducible refine (client_Parse.calls kj5 a1 t554 t555 t556 _ A29.out).mono ?_); rintro e w93 ⟨v557, rfl, ho0, hb⟩; refine ⟨_, rfl, ?_⟩; have n0_ := Aside0.mk (Kd.S_lower ho0 (below_size (by repeat (first | (with_reducible first | exact HB.out | apply below_alloc | apply pw_below_drewN | apply below_drew1) | exact HB.out)))); have n1_ := Aside0.mk (below_step (by repeat (first | (with_reducible first | exact HB.out | apply below_alloc | apply pw_below_drewN | apply below_drew1) | exact HB.out)) hb); clear HB; have HO558 := n0_; have HB := n1_; clear n0_ n1_; (try clear hb); (try clear hb2); (try clear hk); (try clear hi); (try clear ho0)) | ((with_reducible refine gate_callee (f := 19) rfl ?_); refine goesL_ (some 52) rfl rfl Tryz.func19 (by kernel_rfl) rfl #[.int .i64 t555] rfl (by (try simp only [List.map_toArray, List.map_cons, List.map_nil]); first | done | rfl | (simp only [List.length_drop, List.length_take]; rfl)) ?_; (with_reducible refine (wicketlaw11_num.calls t555 t559 _ A30.out).mono ?_); rintro e w' ⟨rfl, ⟨nd, rfl⟩⟩; refine ⟨_, rfl, ?_⟩; obtain ⟨Ao94, co94, eo94⟩ := Kd.S_slice HO558.out; subst eo94) | (go_at_call 21; (with_reducible refine (wicketlaw11_live.calls  t560 _ A92.out).mono ?_); rintro e w95 ⟨rfl, hb⟩; have n0_ := Aside0.mk (Kd.S_below (by (with_reducible repeat (first | apply Kd.S_alloc | apply Kd.S_drewN | apply Kd.S_drew)); exact HO558.out) hb); have n1_ := Aside0.mk (below_step (by repeat (first | (with_reducible first | exact HB.out | apply below_alloc | apply pw_below_drewN | apply below_drew1) | exact HB.out)) hb); clear HO558; clear HB; have HO558 := n0_; have HB := n1_; clear n0_ n1_; (try clear hb); (try clear hb2); (try clear hk); (try clear hi)))
          go_ret
          exact ⟨by first | rfl | (simp [errW_none, errW_some] <;> rfl) | (simp [*, errW_none, errW_some] <;> rfl) | (simp; (generalize ByteArray.toList _ = z_); cases z_ <;> rfl), by repeat (first | (with_reducible first | exact HB.out | apply below_alloc | apply pw_below_drewN | apply below_drew1) | exact HB.out)⟩
        · rw [if_neg c91] at H
          have c91b0 : ((t554.length : Int) == 0) = false := beq_eq_false_iff_ne.mpr c91
          have c91b1 : ((t554.length : Int) != 0) = true := bne_iff_ne.mpr c91
          have c91b2 : ¬ (t554 = []) := fun h_ => c91 (by rw [h_]; rfl)
          obtain rfl := Option.some.inj H
          go_wp2_with (first | ((with_reducible refine gate_callee (f := 22) rfl ?_); refine goesL_ (some 47) rfl rfl Tryz.func22 (by kernel_rfl) rfl #[.string a1] rfl (by (try simp only [List.map_toArray, List.map_cons, List.map_nil]); first | done | rfl | (simp only [List.length_drop, List.length_take]; rfl)) ?_; (with_reducible refine (client_Parse.calls kj5 a1 t554 t555 t556 _ A29.out).mono ?_); rintro e w96 ⟨v557, rfl, ho0, hb⟩; refine ⟨_, rfl, ?_⟩; have n0_ := Aside0.mk (Kd.S_lower ho0 (below_size (by repeat (first | (with_reducible first | exact HB.out | apply below_alloc | apply pw_below_drewN | apply below_drew1) | exact HB.out)))); have n1_ := Aside0.mk (below_step (by repeat (first | (with_reducible first | exact HB.out | apply below_alloc | apply pw_below_drewN | apply below_drew1) | exact HB.out)) hb); clear HB; have HO558 := n0_; have HB := n1_; clear n0_ n1_; (try clear hb); (try clear hb2); (try clear hk); (try clear hi); (try clear ho0)) | ((with_reducible refine gate_callee (f := 19) rfl ?_); refine goesL_ (some 52) rfl rfl Tryz.func19 (by kernel_rfl) rfl #[.int .i64 t555] rfl (by (try simp only [List.map_toArray, List.map_cons, List.map_nil]); first | done | rfl | (simp only [List.length_drop, List.length_take]; rfl)) ?_; (with_reducible refine (wicketlaw11_num.calls t555 t559 _ A30.out).mono ?_); rintro e w' ⟨rfl, ⟨nd, rfl⟩⟩; refine ⟨_, rfl, ?_⟩; obtain ⟨Ao97, co97, eo97⟩ := Kd.S_slice HO558.out; subst eo97))
          go_ret
          exact ⟨by first | rfl | (simp [errW_none, errW_some] <;> rfl) | (simp [*, errW_none, errW_some] <;> rfl) | (simp; (generalize ByteArray.toList _ = z_); cases z_ <;> rfl), by repeat (first | (with_reducible first | exact HB.out | apply below_alloc | apply pw_below_drewN | apply below_drew1) | exact HB.out)⟩
end Go.Proofs.YtmimipgmhgalaaaGreatDoor.PAll
end
section
namespace Go.Proofs.YtmimipgmhgalaaaGreatDoor.Pure
open Go.RowKit Go.Proofs.YtmimipgmhgalaaaGreatDoorW.PrintWords Go.Proofs.YtmimipgmhgalaaaGreatDoor.Plain Go.Proofs.YtmimipgmhgalaaaGreatDoor.Spec Go.Proofs.YtmimipgmhgalaaaGreatDoor.PAll
set_option linter.unusedSimpArgs false
set_option linter.unusedVariables false
theorem keep_sub {l : List S68} {p : S68} (h : p ∈ keepL l) : p ∈ l := (List.mem_filter.1 h).1
theorem keep_cons (p : S68) (r : List S68) : keepL (p :: r) = if p.f1.toList = [] then keepL r else p :: keepL r := by
  unfold keepL
  rw [List.filter_cons]
  by_cases e : p.f1.toList = []
  · rw [if_pos e, if_neg (by simp [e])]
  · rw [if_neg e, if_pos (by simp [e])]
theorem count_keep (n : ByteArray) : ∀ l : List S68, countV n (keepL l) ≤ countV n l
  | [] => Nat.le_refl _
  | p :: r => by
    have ih := count_keep n r
    rw [keep_cons]
    by_cases e : p.f1.toList = []
    · rw [if_pos e]
      simp only [countV]
      split <;> omega
    · rw [if_neg e]
      simp only [countV]
      split <;> omega
theorem last_none (n : ByteArray) : ∀ (l : List S68) (v : ByteArray), countV n l = 0 → lastV n l v = v
  | [], v, _ => rfl
  | p :: r, v, h => by
    unfold countV at h
    unfold lastV
    by_cases e : p.f0 = n
    · rw [if_pos e] at h; omega
    · rw [if_neg e] at h; rw [if_neg e]; exact last_none n r v h
theorem last_keep (n : ByteArray) : ∀ l : List S68, countV n l ≤ 1 → lastV n (keepL l) ⟨#[]⟩ = lastV n l ⟨#[]⟩
  | [], _ => rfl
  | p :: r, h => by
    unfold countV at h
    rw [keep_cons]
    by_cases e : p.f0 = n
    · rw [if_pos e] at h
      have hz : countV n r = 0 := by omega
      have hk : countV n (keepL r) = 0 := by have := count_keep n r; omega
      by_cases e1 : p.f1.toList = []
      · rw [if_pos e1, last_none n _ _ hk]
        unfold lastV
        rw [if_pos e, last_none n _ _ hz]
        exact (toList_inj (by rw [e1, ByteArray.toList_eq])).symm
      · rw [if_neg e1]
        unfold lastV
        rw [if_pos e, if_pos e, last_none n _ _ hz, last_none n _ _ hk]
    · rw [if_neg e] at h
      have ih := last_keep n r h
      by_cases e1 : p.f1.toList = []
      · rw [if_pos e1, ih]
        conv => rhs; unfold lastV
        rw [if_neg e]
      · rw [if_neg e1]
        unfold lastV
        rw [if_neg e, if_neg e, ih]
theorem six_count (c : ClT) : ∀ n ∈ namesL, countV n (six c) ≤ 1 := by
  intro n hn
  unfold namesL at hn
  simp only [List.mem_cons, List.not_mem_nil, or_false] at hn
  rcases hn with rfl | rfl | rfl | rfl | rfl | rfl <;> exact Nat.le_of_eq rfl
theorem gr_back : grR wDevice = 1 ∧ grR wCiba = 2 ∧ grR wBoth = 3 := by decide +kernel
theorem ref_line (c : ClT) (hc : checkL c = true) : refOkB (lineP c) = true ∧ refC (lineP c) = c := by
  have hf := fits_of c hc
  have hk : ∀ n ∈ namesL, lastV n (lineP c) ⟨#[]⟩ = lastV n (six c) ⟨#[]⟩ := fun n hn => last_keep n _ (six_count c n hn)
  have k0 : lastV nId (lineP c) ⟨#[]⟩ = c.i := (hk _ (by simp [namesL])).trans rfl
  have k1 : lastV nSecret (lineP c) ⟨#[]⟩ = c.s := (hk _ (by simp [namesL])).trans rfl
  have k2 : lastV nGrants (lineP c) ⟨#[]⟩ = grW c.gr := (hk _ (by simp [namesL])).trans rfl
  have k3 : lastV nPing (lineP c) ⟨#[]⟩ = pgW c.pg := (hk _ (by simp [namesL])).trans rfl
  have k4 : lastV nUrl (lineP c) ⟨#[]⟩ = c.u := (hk _ (by simp [namesL])).trans rfl
  have k5 : lastV nScope (lineP c) ⟨#[]⟩ = bs (joinedL c.sc) := (hk _ (by simp [namesL])).trans rfl
  have hsc : scopesOk c.sc = true := by
    unfold checkL at hc
    simp only [Bool.and_eq_true] at hc
    exact hc.2
  unfold scopesOk at hsc
  simp only [Bool.and_eq_true, decide_eq_true_eq] at hsc
  have hsl : sL (bs (joinedL c.sc)) = c.sc := by unfold sL; rw [bs_data]; exact hsc.2
  have hgr : grR (grW c.gr) = c.gr := by
    rcases hf.g with hg | hg | hg
    · rw [hg]; exact gr_back.1
    · rw [hg]; exact gr_back.2.1
    · rw [hg]; exact gr_back.2.2
  have hpg : decide ((pgW c.pg).toList = [121, 101, 115]) = c.pg := by
    cases c.pg
    · decide +kernel
    · decide +kernel
  have hC : refC (lineP c) = c := by
    unfold refC
    rw [k0, k1, k2, k3, k4, k5, hsl, hgr, hpg]
  refine ⟨?_, hC⟩
  rw [refOkB_iff]
  refine ⟨fun p hp => ?_, fun n hn => Nat.le_trans (count_keep n _) (six_count c n hn), ?_, ?_, by rw [hC]; exact hc⟩
  · have := keep_sub hp
    unfold six at this
    simp only [List.mem_cons, List.not_mem_nil, or_false] at this
    rcases this with rfl | rfl | rfl | rfl | rfl | rfl <;> simp [namesL]
  · rw [k5, bs_data]; exact hsc.1
  · rw [k3]
    cases c.pg
    · exact .inl (by decide +kernel)
    · exact .inr (by decide +kernel)
theorem line_read (c : ClT) (hc : checkL c = true) : refLineS (printL (lineP c)) = (c, true) := by
  have hf := fits_of c hc
  have hl := lineB_len c hf
  unfold lineB at hl
  rw [List.length_append, List.length_singleton] at hl
  have hn : (lineP c).length ≤ 64 := by
    have := List.length_filter_le (fun q : S68 => !(q.f1.toList == [])) (six c)
    have h6 : (six c).length = 6 := rfl
    unfold lineP keepL
    omega
  have hp := ((parse_print (lineP c)).2 (by omega)).2 hn
  have hr := ref_line c hc
  unfold refLineS
  rw [hp]
  simp only
  rw [back34, if_pos ⟨trivial, hr.1⟩, hr.2]
set_option maxRecDepth 100000 in
theorem esc_ten : ∀ n : Fin 256, ∀ b ∈ escB (UInt8.ofNat n.val), b ≠ 10 := by decide +kernel
theorem escL_ten (l : List UInt8) : 10 ∉ escL l := by
  intro h
  unfold escL at h
  obtain ⟨c, _, hc⟩ := List.mem_flatMap.1 h
  have a := esc_ten ⟨c.toNat, c.toNat_lt⟩
  simp only [UInt8.ofNat_toNat] at a
  exact a _ hc rfl
theorem pair_ten (p : S68) : 10 ∉ pairB p := by
  unfold pairB
  rw [List.mem_append, List.mem_cons]
  rintro (h | h | h)
  · exact escL_ten _ h
  · cases h
  · exact escL_ten _ h
theorem print_ten (l : List S68) : 10 ∉ printL l := by
  cases l with
  | nil => simp [printL]
  | cons p r =>
    unfold printL
    rw [List.mem_append]
    rintro (h | h)
    · exact pair_ten _ h
    · obtain ⟨q, _, hq⟩ := List.mem_flatMap.1 h
      rcases List.mem_cons.1 hq with hq | hq
      · cases hq
      · exact pair_ten _ hq
theorem line_note (c : ClT) (hc : checkL c = true) : noteB (printL (lineP c)) = false := by
  have hi : c.i.toList ≠ [] := by
    intro e
    unfold checkL at hc
    simp only [Bool.and_eq_true] at hc
    have := hc.1.1.1.1
    unfold withinL at this
    simp only [Bool.and_eq_true, decide_eq_true_eq] at this
    have h1 := this.2.1
    rw [← toList_data, e] at h1
    simp at h1
  have e : ∃ r, lineP c = ⟨⟨#[105, 100]⟩, c.i⟩ :: r := by
    unfold lineP six
    rw [keep_cons, if_neg hi]
    exact ⟨_, rfl⟩
  obtain ⟨r, e⟩ := e
  rw [e]
  rfl
theorem split_lines : ∀ l : List CC, splitL 10 (linesB l) = l.map (fun x => printL (lineP (toT x))) ++ [[]]
  | [] => rfl
  | x :: r => by
    have ih := split_lines r
    have e : linesB (x :: r) = printL (lineP (toT x)) ++ 10 :: linesB r := by
      unfold linesB lineB
      simp
    rw [e, splitL_hit 10 _ _ (print_ten _), ih]
    rfl
theorem read_lines : ∀ (l : List CC) (n : Nat) (acc : List CC), (∀ x ∈ l, checkL (toT x) = true) → (idsC acc ++ idsC l).Nodup → acc.length + l.length ≤ 256 →
    regL (l.map (fun x => printL (lineP (toT x))) ++ [[]]) n acc = (acc ++ l, 0, 0)
  | [], n, acc, _, _, _ => by simp [regL, noteB]
  | x :: r, n, acc, hc, hd, hn => by
    have hx := hc x (by simp)
    rw [List.length_cons] at hn
    have hnf : ¬ (foundC (toT x).i acc).2 = true := by
      rw [found_iff]
      intro hm
      rw [List.nodup_append] at hd
      exact hd.2.2 _ hm x.f0 (by simp [idsC]) rfl
    rw [List.map_cons, List.cons_append, regL_cons, if_neg (by rw [line_note _ hx]; simp), line_read _ hx, if_pos rfl, if_neg hnf, if_neg (by omega)]
    have e : mkC (toT x) = x := rfl
    rw [e]
    have hd2 : (idsC (acc ++ [x]) ++ idsC r).Nodup := by
      have : idsC (acc ++ [x]) ++ idsC r = idsC acc ++ idsC (x :: r) := by simp [idsC]
      rw [this]; exact hd
    rw [read_lines r (n + 1) (acc ++ [x]) (fun y hy => hc y (by simp [hy])) hd2 (by rw [List.length_append, List.length_singleton]; omega), List.append_assoc]
    rfl
structure Good (l : List CC) : Prop where
  c : ∀ x ∈ l, checkL (toT x) = true
  d : (idsC l).Nodup
  n : l.length ≤ 256
theorem print_good {l : List CC} (h : Good l) : printC l = if (linesB l).length > 65536 then (⟨#[]⟩, 1) else (bs (linesB l), 0) := by
  have hnb : ¬ badC l = true := by
    intro hb
    obtain ⟨x, hx, h2⟩ := List.any_eq_true.1 hb
    rw [h.c x hx] at h2
    cases h2
  unfold printC
  have := h.n
  rw [if_neg hnb, if_neg (by simpa using h.d), if_neg (by omega)]
theorem print_back {l : List CC} (h : Good l) (hl : ¬ (linesB l).length > 65536) : regS (linesB l) = (l, 0, 0) := by
  unfold regS
  rw [if_neg hl, split_lines, read_lines l 0 [] h.c (by simpa [idsC] using h.d) (by simpa using h.n), List.nil_append]
theorem print_said (l : List CC) : ((printC l).2 = 0 ∧ Good l ∧ ¬ (linesB l).length > 65536 ∧ (printC l).1 = bs (linesB l)) ∨ ((printC l).2 ≠ 0 ∧ (printC l).1 = ⟨#[]⟩) := by
  unfold printC
  by_cases h1 : badC l = true
  · rw [if_pos h1]; exact .inr ⟨by decide, rfl⟩
  · rw [if_neg h1]
    by_cases h2 : (idsC l).Nodup
    · rw [if_neg (by simpa using h2)]
      by_cases h3 : l.length > 256
      · rw [if_pos h3]; exact .inr ⟨by decide, rfl⟩
      · rw [if_neg h3]
        by_cases h4 : (linesB l).length > 65536
        · rw [if_pos h4]; exact .inr ⟨by decide, rfl⟩
        · rw [if_neg h4]
          refine .inl ⟨rfl, ⟨fun x hx => ?_, h2, by omega⟩, h4, rfl⟩
          cases hc : checkL (toT x) with
          | true => rfl
          | false => exact absurd (List.any_eq_true.2 ⟨x, hx, by rw [hc]; rfl⟩) h1
    · rw [if_pos (by simpa using h2)]; exact .inr ⟨by decide, rfl⟩
theorem refLine_check (p : List UInt8) (h : (refLineS p).2 = true) : checkL (refLineS p).1 = true := by
  unfold refLineS at h ⊢
  split
  · rename_i hk
    exact ((refOkB_iff _).1 hk.2).2.2.2.2
  · rename_i hk
    rw [if_neg hk] at h
    cases h
theorem regL_good : ∀ (ps : List (List UInt8)) (n : Nat) (acc : List CC), Good acc → ((regL ps n acc).2.1 = 0 ∧ Good (regL ps n acc).1) ∨ ((regL ps n acc).2.1 ≠ 0 ∧ (regL ps n acc).1 = [])
  | [], n, acc, h => .inl ⟨rfl, h⟩
  | p :: r, n, acc, h => by
    rw [regL_cons]
    by_cases h1 : noteB p = true
    · rw [if_pos h1]; exact regL_good r _ _ h
    · rw [if_neg h1]
      by_cases h2 : (refLineS p).2 = true
      · rw [if_pos h2]
        by_cases h3 : (foundC (refLineS p).1.i acc).2 = true
        · rw [if_pos h3]; exact .inr ⟨by show (8 : Int) ≠ 0; decide, rfl⟩
        · rw [if_neg h3]
          by_cases h4 : acc.length = 256
          · rw [if_pos h4]; exact .inr ⟨by show (32 : Int) ≠ 0; decide, rfl⟩
          · rw [if_neg h4]
            refine regL_good r _ _ ⟨fun x hx => ?_, ?_, ?_⟩
            · rcases List.mem_append.1 hx with hx | hx
              · exact h.c x hx
              · rw [List.mem_singleton.1 hx]; exact refLine_check p h2
            · rw [found_iff] at h3
              unfold idsC at h3 ⊢
              rw [List.map_append, List.nodup_append]
              refine ⟨h.d, by simp, fun a ha b hb e => h3 ?_⟩
              rw [List.map_cons, List.map_nil, List.mem_singleton] at hb
              rw [e, hb] at ha
              exact ha
            · have := h.n
              rw [List.length_append, List.length_singleton]
              omega
      · rw [if_neg h2]; exact .inr ⟨by show (110 : Int) ≠ 0; decide, rfl⟩
theorem regS_good (s : List UInt8) : ((regS s).2.1 = 0 ∧ Good (regS s).1) ∨ ((regS s).2.1 ≠ 0 ∧ (regS s).1 = []) := by
  unfold regS
  split
  · exact .inr ⟨by decide, rfl⟩
  · exact regL_good _ _ _ ⟨by simp, by simp [idsC], by simp⟩
theorem good_small {l : List CC} (h : Good l) : SmallC l ∧ ∀ x ∈ l, Small (toT x) := by
  have hn := h.n
  refine ⟨⟨by omega, fun x hx => ?_⟩, fun x hx => ?_⟩
  · have := (fits_of _ (h.c x hx)).n
    exact Nat.le_trans this (by decide)
  · have f := fits_of _ (h.c x hx)
    exact ⟨Nat.le_trans f.i (by decide), Nat.le_trans f.s (by decide), Nat.le_trans f.u (by decide), Nat.le_trans f.n (by decide), Nat.le_trans f.j (by decide)⟩
theorem back_text (a : ByteArray) : Ev (fun k => wicketlaw11_ClientBack.j0 k a) true := by
  refine Ev.step (f := fun k => (client_Parse.f k a).bind fun bt554 => ((wicketlaw11_num.f bt554.2.1).bind fun t559 => (if t559 = 0 then ((wicketlaw11_copied.f k bt554.1).bind fun t561 => ((client_Print.f t561).bind fun bt564 => ((wicketlaw11_num.f bt564.2).bind fun t566 => (if t566 = 1 then (if bt564.1.toList = ([] : List UInt8) then ((wicketlaw11_live.f).bind fun t567 => (some t567)) else (some false)) else ((client_Parse.f k bt564.1).bind fun bt568 => ((wicketlaw11_num.f bt564.2).bind fun t573 => (if t573 = 0 then ((wicketlaw11_num.f bt568.2.1).bind fun t574 => (if t574 = 0 then ((wicketlaw11_all.f k bt554.1).bind fun t575 => ((wicketlaw11_list.f k bt568.1 t575).bind fun t578 => (if t578 = true then ((wicketlaw11_live.f).bind fun t579 => (some t579)) else (some false)))) else (some false))) else (some false)))))))) else (if (bt554.1.length : Int) = 0 then ((wicketlaw11_live.f).bind fun t560 => (some t560)) else (some false))))) (fun k => rfl) ?_
  refine Ev.bind (prog_ev a) (Ev.bind (Ev.now _) ?_)
  rcases regS_good a.data.toList with ⟨h0, hg⟩ | ⟨h0, hg⟩
  · refine Ev.pos h0 ?_
    obtain ⟨hl, hs⟩ := good_small hg
    generalize (regS a.data.toList).1 = l at *
    refine Ev.bind (copied_ev l hl) ?_
    rw [print_some l hs]
    refine Ev.bind (Ev.now _) (Ev.bind (Ev.now _) ?_)
    rw [print_good hg]
    by_cases hb : (linesB l).length > 65536
    · rw [if_pos hb]
      exact Ev.pos rfl (Ev.pos (by rw [ByteArray.toList_eq]) (Ev.bind (Ev.now _) (Ev.now _)))
    · rw [if_neg hb]
      have hp := prog_ev (bs (linesB l))
      rw [bs_data, print_back hg hb] at hp
      refine Ev.neg (show ¬ ((0 : Int) = 1) by decide) (Ev.bind hp (Ev.bind (Ev.now _) (Ev.pos rfl (Ev.bind (Ev.now _) (Ev.pos rfl (Ev.bind (all_ev l hl) (Ev.bind (list_ev l hl) (Ev.pos rfl (Ev.bind (Ev.now _) (Ev.now _))))))))))
  · refine Ev.neg h0 ?_
    rw [hg]
    exact Ev.pos rfl (Ev.bind (Ev.now _) (Ev.now _))
theorem ClientBack (l : List CC) (a : ByteArray)
    (ok : l.length * 88 ≤ 140737488351232 ∧ ∀ y, y ∈ l → (y.f0.size ≤ 140737488351232) ∧ (y.f1.size ≤ 140737488351232) ∧ ((Lit.int .i64 y.f2).wf = true) ∧ (True) ∧ (y.f4.size ≤ 140737488351232) ∧ (y.f5.length * 16 ≤ 140737488351232 ∧ ∀ z, z ∈ y.f5 → z.size ≤ 140737488351232))
    (ok1 : a.size ≤ 140737488351232) (hb : ((l.map weightC).sum + 1) + (a.size + 1) ≤ 1048576) : ∃ k, wicketlaw11_ClientBack.f k l a = some true := by
  have hl := smallC_of l _ (Nat.le_refl _) (by omega)
  have hs := small_weight l _ (Nat.le_refl _) (by omega)
  refine Ev.rounds ?_
  unfold wicketlaw11_ClientBack.f
  refine Ev.bind (copied_ev l hl) ?_
  rw [print_some l hs]
  refine Ev.bind (Ev.now _) (Ev.bind (Ev.now _) ?_)
  rcases print_said l with ⟨h0, hg, hn, h1⟩ | ⟨h0, h1⟩
  · have hp := prog_ev (bs (linesB l))
    rw [bs_data, print_back hg hn] at hp
    refine Ev.pos h0 ?_
    rw [h1]
    exact Ev.bind hp (Ev.bind (Ev.now _) (Ev.pos rfl (Ev.bind (all_ev l hl) (Ev.bind (list_ev l hl) (Ev.pos rfl (back_text a))))))
  · refine Ev.neg h0 ?_
    rw [h1]
    exact Ev.pos (by rw [ByteArray.toList_eq]) (back_text a)
end Go.Proofs.YtmimipgmhgalaaaGreatDoor.Pure
end
section
namespace Go.Proofs.YtmimipgmhgalaaaGreatDoor.Open
open Go.ChangeShapes Go.WideShapes Go.ChangeAt Go.RowKit Go.Proofs.YtmimipgmhgalaaaGreatDoorW.PrintWords
def Opens {α : Type} (P : Program) (T : TypeId) (d : Kd α) (m : α → Nat) (ok : α → Prop) : Prop :=
  ∀ (H : Type) (enc : TypeId × Value → H) (w : World) (base : Nat) (spare : Nat → Bool) (held : Bool) (fuel : Nat) (cs : List Value) (x : DataW H × List MemPlace),
    DataW.trod enc P w base spare held fuel T cs = some x → ∃ a, d.K w a cs ∧ m a ≤ Rows.uptoBulk x.1 ∧ ((DataW.weights P T x.1).all (· ≤ reachBytes) = true → ok a)
theorem opens_string {P : Program} {T : TypeId} (hu : P.underlying T = some .string) : Opens P T Kd.string (fun s => s.size + 1) (fun s => s.size ≤ 140737488351232) := by
  intro H enc w base spare held fuel cs x h
  obtain ⟨s, rfl, rfl, _⟩ := DataW.trod_string hu h
  refine ⟨s, rfl, ?_, fun hw => ?_⟩
  · simp [Rows.uptoBulk]
  · simp only [DataW.weights, List.all_cons, List.all_nil, Bool.and_true, reachBytes, Array.length_toList] at hw
    exact of_decide_eq_true hw
theorem opens_int {P : Program} {T : TypeId} {k : IntKind} (hu : P.underlying T = some (.int k)) : Opens P T (Kd.int k) (fun _ => 1) (fun n => (Lit.int k n).wf = true) := by
  intro H enc w base spare held fuel cs x h
  obtain ⟨n, rfl, rfl, hw⟩ := DataW.trod_int hu h
  exact ⟨n, rfl, by simp [Rows.uptoBulk], fun _ => hw⟩
theorem opens_bool {P : Program} {T : TypeId} (hu : P.underlying T = some .bool) : Opens P T Kd.bool (fun _ => 1) (fun _ => True) := by
  intro H enc w base spare held fuel cs x h
  have h' : ∃ b, cs = [.bool b] ∧ x = (.lit (.bool b), []) := by
    cases fuel with
    | zero => simp [DataW.trod] at h
    | succ n =>
      unfold DataW.trod at h
      rw [hu] at h
      split at h <;> simp_all
  obtain ⟨b, rfl, rfl⟩ := h'
  exact ⟨b, rfl, by simp [Rows.uptoBulk], fun _ => trivial⟩
theorem cells?_at {w : World} {base : Nat} {a : Addr} {n : Nat} {cs : List Value} (h : w.cells? base a n = some cs) : cs.length = n ∧ ∀ (i : Nat) (u : Value), cs[i]? = some u → w.cell? (a.add i) = some u := by
  unfold World.cells? at h
  split at h
  · refine ⟨by simpa using mapM_some_length h, fun i u hu => ?_⟩
    have hi : i < n := by
      have h1 := (List.getElem?_eq_some_iff.1 hu).1
      have h2 : cs.length = n := by simpa using mapM_some_length h
      omega
    have := mapM_some_get h i i (by simp [hi])
    rw [this, hu]
  · cases h
theorem bulk_all_le {H : Type} {α : Type} {m : α → Nat} : ∀ (l : List α) (ys : List (DataW H)), l.length ≤ ys.length → (∀ (i : Nat) (a : α) (y : DataW H), l[i]? = some a → ys[i]? = some y → m a ≤ Rows.uptoBulk y) → (l.map m).sum ≤ Rows.uptoBulkAll ys
  | [], ys, _, _ => by simp
  | a :: l, [], hl, _ => by simp at hl
  | a :: l, y :: ys, hl, h => by
    have h0 := h 0 a y rfl rfl
    have h1 := bulk_all_le l ys (by simpa using hl) (fun i b z hb hz => h (i + 1) b z (by simpa using hb) (by simpa using hz))
    simp only [List.map_cons, List.sum_cons, Rows.uptoBulkAll]
    omega
theorem weights_all_at {H : Type} (P : Program) (e : TypeId) : ∀ (ys : List (DataW H)), (DataW.weightsAll P e ys).all (· ≤ reachBytes) = true → ∀ (i : Nat) (y : DataW H), ys[i]? = some y → (DataW.weights P e y).all (· ≤ reachBytes) = true
  | [], _, i, y, hy => by simp at hy
  | z :: ys, h, i, y, hy => by
    rw [DataW.weightsAll, List.all_append, Bool.and_eq_true] at h
    cases i with
    | zero => simp at hy; subst hy; exact h.1
    | succ i => exact weights_all_at P e ys h.2 i y (by simpa using hy)
theorem choose_list {α β : Type} {n : Nat} {ys : List β} (hn : ys.length = n) {Q : Nat → β → α → Prop} (h : ∀ (i : Nat) (y : β), ys[i]? = some y → ∃ a, Q i y a) : ∃ l : List α, l.length = n ∧ ∀ (i : Nat) (y : β) (a : α), ys[i]? = some y → l[i]? = some a → Q i y a := by
  induction ys generalizing n Q with
  | nil => exact ⟨[], by simpa using hn, by simp⟩
  | cons y ys ih =>
    obtain ⟨a, ha⟩ := h 0 y rfl
    obtain ⟨l, hl, hq⟩ := ih (n := ys.length) rfl (Q := fun i => Q (i + 1)) (fun i z hz => h (i + 1) z (by simpa using hz))
    refine ⟨a :: l, by simp at hn ⊢; omega, fun i z b hz hb => ?_⟩
    cases i with
    | zero => simp at hz hb; subst hz hb; exact ha
    | succ i => exact hq i z b (by simpa using hz) (by simpa using hb)
theorem opens_slice {α : Type} {P : Program} {T e : TypeId} {d : Kd α} {m : α → Nat} {ok : α → Prop} {B : Nat} (hu : P.underlying T = some (.slice e)) (ho : Opens P e d m ok) (hc : P.cellsOf e = d.sz) (hB : P.bytesOf e = B) :
    Opens P T (Kd.slice e d) (fun l => (l.map m).sum + 1) (fun l => l.length * B ≤ 140737488351232 ∧ ∀ a, a ∈ l → ok a) := by
  intro H enc w base spare held fuel cs x h
  rcases DataW.trod_slice hu h with ⟨rfl, rfl⟩ | ⟨a, len, cap, elems, rest, n, _, rfl, rfl, hb, hl, hm, hlen, hel, hsp, hns⟩
  · refine ⟨[], ⟨none, 0, rfl, Nat.le_refl _, rfl, by simp, fun h => absurd h (by simp)⟩, by simp [Rows.uptoBulk], fun _ => ⟨by simp, by simp⟩⟩
  · have each : ∀ (i : Nat) (y : DataW H × List MemPlace), elems[i]? = some y → ∃ b : α, (∃ c, d.K w b c ∧ c.length = d.sz ∧ ∀ (j : Nat) (u : Value), c[j]? = some u → w.cell? ((a.add (i * d.sz)).add j) = some u) ∧ m b ≤ Rows.uptoBulk y.1 ∧ ((DataW.weights P e y.1).all (· ≤ reachBytes) = true → ok b) := by
      intro i y hy
      have hi : i < len := by rw [← hlen]; exact (List.getElem?_eq_some_iff.1 hy).1
      have h1 := hel i hi
      rw [hy, Option.bind_eq_some_iff] at h1
      obtain ⟨c, hcs, ht⟩ := h1
      obtain ⟨b, hk, hm', hok⟩ := ho H enc w base spare held n c y ht
      rw [hc] at hcs
      obtain ⟨hcl, hcc⟩ := cells?_at hcs
      exact ⟨b, ⟨c, hk, hcl, hcc⟩, hm', hok⟩
    obtain ⟨l, hll, hq⟩ := choose_list hlen each
    have hget : ∀ (i : Nat) (b : α), l[i]? = some b → ∃ y, elems[i]? = some y := fun i b hb => by
      have hi : i < l.length := (List.getElem?_eq_some_iff.1 hb).1
      exact ⟨elems[i]'(by omega), List.getElem?_eq_getElem (by omega)⟩
    refine ⟨l, ⟨some a, cap, by rw [hll], by omega, ⟨rfl, by unfold maxLen at hm; omega, fun _ => ⟨a, rfl, fun j p hp => ?_⟩⟩⟩, ?_, fun hw => ?_⟩
    · obtain ⟨y, hy⟩ := hget j p hp
      obtain ⟨⟨c, hk, hcl, hcc⟩, _⟩ := hq j y p hy hp
      exact ⟨c, hcl, hk, fun i u hu' => by rw [← add_add]; exact hcc i u hu'⟩
    · have h1 := bulk_all_le l (elems.map (·.1)) (by simp; omega) (fun i b y hb hy => by
        simp only [List.getElem?_map, Option.map_eq_some_iff] at hy
        obtain ⟨z, hz, rfl⟩ := hy
        exact (hq i z b hz hb).2.1)
      simp only [Rows.uptoBulk]
      omega
    · rw [DataW.weights, hu] at hw
      simp only [hB] at hw
      simp only [List.all_cons, Bool.and_eq_true, List.all_append, decide_eq_true_eq, List.length_map, hlen] at hw
      refine ⟨?_, fun b hb => ?_⟩
      · rw [hll]
        have := hw.1
        unfold reachBytes at this
        exact Nat.le_trans (Nat.mul_le_mul_right _ (by omega)) this
      · obtain ⟨i, hi⟩ := List.getElem?_of_mem hb
        obtain ⟨y, hy⟩ := hget i b hi
        exact (hq i y b hy hi).2.2 (weights_all_at P e _ hw.2.1 i y.1 (by simp [hy]))
theorem arg_slice {α : Type} {H : Type} {enc : TypeId × Value → H} {P : Program} {W : World} {base b0 : Nat} {r : Reach} {spare : Nat → Bool} {held : Bool} {T e : TypeId} {d : Kd α} {m : List α → Nat} {ok : List α → Prop} {v : Value} {x : DataW H} {ps : List MemPlace}
    (hu : P.underlying T = some (.slice e)) (ho : Opens P T (Kd.slice e d) m ok) (hv : Value.okWide P W r b0 T v) (h : DataW.Trod enc P W base spare held T v x ps) :
    ∃ (l : List α) (A : Option Addr) (c : Nat), v = .slice A l.length c ∧ l.length ≤ c ∧ Kd.C d W A l.length l ∧ m l ≤ Rows.uptoBulk x ∧ ((DataW.weights P T x).all (· ≤ reachBytes) = true → ok l) := by
  obtain ⟨a, len, cap, rfl⟩ := okWide_slice hu hv
  obtain ⟨fuel, hf⟩ := h
  obtain ⟨l, ⟨A, c, hcs, hlc, hC⟩, hm, hok⟩ := ho H enc W base spare held fuel _ _ hf
  simp only [Value.cells, List.cons.injEq, and_true] at hcs
  exact ⟨l, A, c, hcs, hlc, hC, hm, hok⟩
theorem arg_string {H : Type} {enc : TypeId × Value → H} {P : Program} {W : World} {base b0 : Nat} {r : Reach} {spare : Nat → Bool} {held : Bool} {T : TypeId} {v : Value} {x : DataW H} {ps : List MemPlace}
    (hu : P.underlying T = some .string) (hv : Value.okWide P W r b0 T v) (h : DataW.Trod enc P W base spare held T v x ps) :
    ∃ s : ByteArray, v = .string s ∧ s.size + 1 ≤ Rows.uptoBulk x ∧ ((DataW.weights P T x).all (· ≤ reachBytes) = true → s.size ≤ 140737488351232) := by
  obtain ⟨s, rfl⟩ := okWide_string hu hv
  obtain ⟨fuel, hf⟩ := h
  obtain ⟨l, hcs, hm, hok⟩ := opens_string hu H enc W base spare held fuel _ _ hf
  have e : s = l := by
    have h2 : [Value.string s] = [Value.string l] := hcs
    injection h2 with h2
    injection h2
  subst e
  exact ⟨s, rfl, hm, hok⟩
theorem trod_lt' {H : Type} {enc : TypeId × Value → H} {P : Program} {W : World} {spare : Nat → Bool} {held : Bool} {T : TypeId} {v : Value} {x : DataW H} {ps : List MemPlace}
    (h : DataW.Trod enc P W 0 spare held T v x ps) : ∀ y ∈ ps, y.block < W.heap.size := by
  obtain ⟨m, hm⟩ := h
  exact DataW.trod_lt m _ _ _ hm
end Go.Proofs.YtmimipgmhgalaaaGreatDoor.Open
end
