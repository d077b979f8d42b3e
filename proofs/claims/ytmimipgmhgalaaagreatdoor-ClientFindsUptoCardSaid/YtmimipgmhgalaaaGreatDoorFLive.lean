/-
  wicketlaw11.live, walked by hand: a registry is read, and a client shows that it is one: it answers true.
-/
import Derived.Test.YtmimipgmhgalaaaGreatDoorFAuth
import Derived.Test.YtmimipgmhgalaaaGreatDoorPAllx5
import Derived.Test.YtmimipgmhgalaaaGreatDoorFCScope
import Derived.Great.Walk
namespace Go.Proofs.YtmimipgmhgalaaaGreatDoor.PAll
open Go.RowKit Go.Proofs.YtmimipgmhgalaaaGreatDoorW.PrintWords Go.Proofs.YtmimipgmhgalaaaGreatDoorW.PrintLast Go.Proofs.YtmimipgmhgalaaaGreatDoorW.PrintMore
set_option linter.unusedVariables false
set_option linter.unusedSimpArgs false
abbrev liveText : ByteArray := ⟨#[105, 100, 61, 98, 111, 120, 38, 115, 101, 99, 114, 101, 116, 61, 115, 38, 103, 114, 97, 110, 116, 115, 61, 99, 105, 98, 97, 38, 115, 99, 111, 112, 101, 61, 112, 97, 121, 10, 105, 100, 61, 116, 118, 38, 103, 114, 97, 110, 116, 115, 61, 100, 101, 118, 105, 99, 101, 10]⟩
theorem live_parse : client_Parse.f 400 liveText = some (liveL, 0, 0) := by kernel_rfl
theorem live_scope : client_Scope.f 400 ⟨#[98, 111, 120]⟩ ⟨#[115]⟩ 2 false ⟨#[]⟩ [⟨#[112, 97, 121]⟩] ⟨#[]⟩ = some (⟨#[112, 97, 121]⟩, 0) := by kernel_rfl
section
variable {P : Program} {ops : Array Oper} {rest : List Oper} {o : Oper} {a : Act} {Q : Exit → Act → World → Prop}
theorem row_event {W : World} (hgd : o.guard = none) {N : Tmp} (_hd : o.dst = some N) {cs : Array Value} {t : TypeId} {n : Nat}
    (hrun : (execOp a.eval o).run P W = .ok (.value (.slice (some ⟨W.heap.size, 0, none⟩) n n)) (W.alloc (.cells cs t (0, 0))))
    (h : ∀ g, g = W.heap.size → ∀ w1, w1.heap[g]? = some (.cells cs t (0, 0)) → Below W.heap.size W w1 → wpList P ops Q rest (a.put o.dst (.slice (some ⟨g, 0, none⟩) n n)) w1) : wpList P ops Q (o :: rest) a W :=
  Kd.event_run hgd hrun (h _ rfl _ (blk_new W _) (below_alloc (Below.refl _ _) _))
end
theorem c68_one {w : World} {g : Nat} {t : TypeId} {x : S68} (h : w.heap[g]? = some (.cells #[.string x.f0, .string x.f1] t (0, 0))) : Kd.C k68 w (some ⟨g, 0, none⟩) 1 [x] := by
  refine ⟨rfl, by omega, fun _ => ⟨_, rfl, fun j p hj => ?_⟩⟩
  rcases j with _ | j
  · obtain rfl : x = p := Option.some.inj hj
    refine ⟨_, rfl, k68_mk w x, fun i u hu => ?_⟩
    rw [← hu]
    rcases i with _ | _ | i
    · exact blk_cell h 0
    · exact blk_cell h 1
    · cases hu
  · cases hj
theorem c68_two {w : World} {g : Nat} {t : TypeId} {x y : S68} (h : w.heap[g]? = some (.cells #[.string x.f0, .string x.f1, .string y.f0, .string y.f1] t (0, 0))) : Kd.C k68 w (some ⟨g, 0, none⟩) 2 [x, y] := by
  refine ⟨rfl, by omega, fun _ => ⟨_, rfl, fun j p hj => ?_⟩⟩
  rcases j with _ | _ | j
  · obtain rfl : x = p := Option.some.inj hj
    refine ⟨_, rfl, k68_mk w x, fun i u hu => ?_⟩
    rw [← hu]
    rcases i with _ | _ | i
    · exact blk_cell h 0
    · exact blk_cell h 1
    · cases hu
  · obtain rfl : y = p := Option.some.inj hj
    refine ⟨_, rfl, k68_mk w y, fun i u hu => ?_⟩
    rw [← hu]
    rcases i with _ | _ | i
    · exact blk_cell h 2
    · exact blk_cell h 3
    · cases hu
  · cases hj
def wicketlaw11_live.f : Option Bool := some true
theorem live_num (a0 : Int) (w : World) : Calls Tryz.prog 19 #[.int .i64 a0] w fun e w' => e = .returned (.int .i64 a0) ∧ Drawn0 w w' := by
  go_enter Tryz.func19, Tryz.ntmps19
  go_wp2
  go_ret
  exact ⟨rfl, by repeat (first | exact Drawn0.refl _ | apply Drawn0.step)⟩
theorem blk_new2 (w : World) (o o' : Obj) : ((w.alloc o).alloc o').heap[w.heap.size + 1]? = some o' := by
  have h := blk_new (w.alloc o) o'
  rwa [show (w.alloc o).heap.size = w.heap.size + 1 from Array.size_push _] at h
set_option maxRecDepth 100000 in
set_option maxHeartbeats 1000000 in
theorem wicketlaw11_live.calls (r : Bool) (w : World) (h : wicketlaw11_live.f = some r) : Calls Tryz.prog 21 #[] w fun e w' => e = .returned (.bool r) ∧ Below w.heap.size w w' := by
  obtain rfl : true = r := Option.some.inj h
  clear h
  have HA2 := Lib.hid auth_yes
  have HA1 := Lib.hid auth_no
  have HSC := Lib.hid (fun (V : World) (A : Option Addr) (c : Nat) (h1 : Kd.C Kd.string V A 1 [⟨#[112, 97, 121]⟩]) (h2 : 1 ≤ c) => show Calls Tryz.prog 37 #[.agg #[.string ⟨#[98, 111, 120]⟩, .string ⟨#[115]⟩, .int .i64 2, .bool false, .string ⟨#[]⟩, .slice A 1 c], .string ⟨#[]⟩] V (fun e w' => e = .returned (.tuple #[.string ⟨#[112, 97, 121]⟩, .int .i64 0]) ∧ Below V.heap.size V w') from
    client_Scope.calls 400 ⟨#[98, 111, 120]⟩ ⟨#[115]⟩ 2 false ⟨#[]⟩ A c [⟨#[112, 97, 121]⟩] ⟨#[]⟩ _ _ V h1 h2 live_scope)
  go_enter Tryz.func21, Tryz.ntmps21
  go_wp2_with (fail)
  refine (client_Parse.calls 400 liveText liveL 0 0 _ live_parse).mono ?_
  rintro e w1 ⟨v0, rfl, hS, hb⟩
  obtain ⟨g, c, rfl, hg, _, cs1, hcs⟩ := Kd.S_form hS (by decide)
  obtain ⟨_, hc, hC⟩ := Kd.S_reads' hS
  clear hS
  have HL := Lib.hid (show (2 : Nat) ≤ c from hc)
  have HC := Lib.hid (show Kd.C k40 w1 (some ⟨g, 0, none⟩) 2 liveL from hC)
  have HB := Lib.hid hb
  obtain ⟨ad, A5, c5, hA, _, h01, _⟩ := at_T40 HC.out 0 (by omega) (by omega)
  obtain ⟨ad', A6, c6, hA', _, _, h12, _⟩ := at_T40 HC.out 1 (by omega) (by omega)
  obtain rfl : (⟨g, 0, none⟩ : Addr) = ad := Option.some.inj hA
  obtain rfl : (⟨g, 0, none⟩ : Addr) = ad' := Option.some.inj hA'
  replace h01 : w1.cell? ⟨g, 1, none⟩ = some (.string ⟨#[115]⟩) := h01
  replace h12 : w1.cell? ⟨g, 8, none⟩ = some (.int .i64 1) := h12
  have hf1 := blk_frozen hcs 1
  have hf8 := blk_frozen hcs 8
  have HX := Lib.hid hcs
  clear hA hA' hb hC hc hcs hg
  rw [show liveL.length = 2 from rfl]
  go_wp2_with (go_at_call 19; (with_reducible refine (live_num 0 _).mono ?_); rintro e w2 ⟨rfl, ⟨nd, rfl⟩⟩)
  refine (HA2.out _ _ _ _ (Kd.C_alloc (Kd.C_drewN HC.out nd) _) (c68_two (x := ⟨_, _⟩) (y := ⟨_, _⟩) (blk_new (w1.drewN nd) _)) HL.out).mono ?_
  rintro e w3 ⟨A3, c3, rfl, hc3, hC3, hb3⟩
  have HB3 := Lib.hid (below_step (below_alloc (pw_below_drewN HB.out nd) _) hb3)
  have HC3 := Lib.hid (Kd.C_below (Kd.C_alloc (Kd.C_drewN HC.out nd) _) hb3)
  have HS3 := Lib.hid hC3
  have HL3 := Lib.hid hc3
  clear hc3 hC3 hb3 HB HC h01 h12 hf1 hf8 HX
  go_wp2_with (fail)
  refine (HA1.out _ _ _ _ (Kd.C_alloc (Kd.C_alloc HC3.out _) _) (c68_one (x := ⟨_, _⟩) (blk_new2 w3 _ _)) HL.out).mono ?_
  rintro e w5 ⟨rfl, hb5⟩
  have BK := Lib.hid (blk_below (blk_alloc (blk_new w3 _) _) hb5)
  have HB5 := Lib.hid (below_step (below_alloc (below_alloc HB3.out _) _) hb5)
  have HS5 := Lib.hid (Kd.C_below (Kd.C_alloc (Kd.C_alloc HS3.out _) _) hb5)
  obtain ⟨p, hp⟩ : ∃ p, p = w3.heap.size := ⟨_, rfl⟩
  rw [← hp] at BK ⊢
  clear hb5 HB3 HC3 HS3 hp
  go_upto_region 6 with (fail)
  have BK6 := Lib.hid (blk_alloc BK.out (Obj.cells #[.string ⟨#[]⟩, .string ⟨#[]⟩, .int .i64 0, .bool false, .string ⟨#[]⟩, .slice none 0 0] 40))
  have HB6 := Lib.hid (below_alloc HB5.out (Obj.cells #[.string ⟨#[]⟩, .string ⟨#[]⟩, .int .i64 0, .bool false, .string ⟨#[]⟩, .slice none 0 0] 40))
  have HS6 := Lib.hid (Kd.C_alloc HS5.out (Obj.cells #[.string ⟨#[]⟩, .string ⟨#[]⟩, .int .i64 0, .bool false, .string ⟨#[]⟩, .slice none 0 0] 40))
  clear BK HB5 HS5
  obtain ⟨q, hq⟩ : ∃ q, q = w5.heap.size := ⟨_, rfl⟩
  rw [← hq]
  generalize hW : w5.alloc (Obj.cells #[.string ⟨#[]⟩, .string ⟨#[]⟩, .int .i64 0, .bool false, .string ⟨#[]⟩, .slice none 0 0] 40) = w6
  rw [hW] at BK6 HB6 HS6
  clear hW hq
  have h50 := blk_cell BK6.out 0
  have h51 := blk_cell BK6.out 1
  have h52 := blk_cell BK6.out 2
  have h53 := blk_cell BK6.out 3
  have h54 := blk_cell BK6.out 4
  have h55 := blk_cell BK6.out 5
  have hf0 := blk_frozen BK6.out 0
  have hf1 := blk_frozen BK6.out 1
  have hf2 := blk_frozen BK6.out 2
  have hf3 := blk_frozen BK6.out 3
  have hf4 := blk_frozen BK6.out 4
  have hf5 := blk_frozen BK6.out 5
  go_wp2_with (fail)
  refine (HSC.out _ _ _ HS6.out HL3.out).mono ?_
  rintro e w7 ⟨rfl, hb7⟩
  have BK7 := Lib.hid (blk_below BK6.out hb7)
  have HB7 := Lib.hid (below_step HB6.out hb7)
  clear h50 h51 h52 h53 h54 h55 hf0 hf1 hf2 hf3 hf4 hf5 BK6 HB6 HS6 hb7
  have h60 := (blk_cell BK7.out 0).trans rfl
  have hf0 := blk_frozen BK7.out 0
  go_wp2_with (first | (go_at_call 19; (with_reducible refine (live_num 0 _).mono ?_); rintro e w9 ⟨rfl, ⟨nd9, rfl⟩⟩) | (go_at_call 19; (with_reducible refine (live_num 112 _).mono ?_); rintro e w9 ⟨rfl, ⟨nd9, rfl⟩⟩))
  go_ret
  exact ⟨rfl, by repeat (first | (with_reducible first | exact HB7.out | apply below_alloc | apply pw_below_drewN | apply below_drew1) | exact HB7.out)⟩
end Go.Proofs.YtmimipgmhgalaaaGreatDoor.PAll
