/-
  wicketlaw11.ClientFinds, walked by hand: where the list is copied, both Find answer alike and the copy is what it was, it answers true. The list of scopes of what is found has at most 4000000000000 names.
-/
import Derived.Test.YtmimipgmhgalaaaGreatDoorFLive
import Derived.Test.YtmimipgmhgalaaaGreatDoorFSpoil
import Derived.Test.YtmimipgmhgalaaaGreatDoorPAllx13
import Derived.Test.YtmimipgmhgalaaaGreatDoorPAllx14
import Derived.Test.YtmimipgmhgalaaaGreatDoorPAllx15
import Derived.Test.YtmimipgmhgalaaaGreatDoorPAllx33
namespace Go.Proofs.YtmimipgmhgalaaaGreatDoor.PAll
open Go.RowKit Go.Proofs.YtmimipgmhgalaaaGreatDoorW.PrintWords Go.Proofs.YtmimipgmhgalaaaGreatDoorW.PrintLast Go.Proofs.YtmimipgmhgalaaaGreatDoorW.PrintMore
set_option linter.unusedVariables false
set_option linter.unusedSimpArgs false
theorem s_single {W : World} {base : Nat} {x : S40} {v5 : Value} (hX : Kd.R Kd.string 9 W base (fun _ => True) v5 x.f5) (hb : base ≤ W.heap.size) :
    Kd.S k40 40 (W.alloc (.cells #[.string x.f0, .string x.f1, .int .i64 x.f2, .bool x.f3, .string x.f4, v5] 40)) base (fun _ => True) (.slice (some ⟨W.heap.size, 0, none⟩) 1 1) [x] := by
  have h2 := World.ownsRow_lit (base := base) (e := 40) (size := 6) W #[.string x.f0, .string x.f1, .int .i64 x.f2, .bool x.f3, .string x.f4, v5] 1 hb (by decide) rfl
  refine ⟨fun _ => 0, fun k hk => trivial, _, h2, rfl, fun j p hj => ?_⟩
  rcases j with _ | j
  · obtain rfl : (x, 0) = p := Option.some.inj hj
    refine k40_mkM _ base _ x (Kd.R_mono (Kd.R_alloc (Kd.R_bound hX) _) ?_)
    intro k hk
    refine ⟨⟨trivial, fun he => ?_⟩, rfl⟩
    have h3 : k = W.heap.size := by simpa [Value.ownBlock] using he
    have := hk.2.2.1
    omega
  · cases j <;> cases hj
def wicketlaw11_ClientFinds.f (k : Nat) (l0 : List S40) (a1 : ByteArray) : Option Bool :=
  (wicketlaw11_copied.f k l0).bind fun c => (client_Find.f k c a1).bind fun x => (wicketlaw11_all.f k l0).bind fun m => (wicketref11_Find.f k m a1).bind fun y =>
    (wicketlaw11_same.f k x.1 x.2.1 x.2.2.1 x.2.2.2.1 x.2.2.2.2.1 x.2.2.2.2.2.1 y.1 y.2.1 y.2.2.1 y.2.2.2.1 y.2.2.2.2.1 y.2.2.2.2.2.1).bind fun s => (wicketlaw11_list.f k c m).bind fun t =>
      if x.2.2.2.2.2.1.length ≤ 4000000000000 ∧ x.2.2.2.2.2.2 = y.2.2.2.2.2.2 ∧ s = true ∧ t = true then some true else none
set_option maxRecDepth 100000 in
set_option maxHeartbeats 1000000 in
theorem wicketlaw11_ClientFinds.calls (k : Nat) (A0 : Option Addr) (c0 : Nat) (l0 : List S40) (a1 : ByteArray) (r : Bool) (w : World) (hr0 : Kd.C k40 w A0 l0.length l0) (hc0 : l0.length ≤ c0) (h : wicketlaw11_ClientFinds.f k l0 a1 = some r) :
    Calls Tryz.prog 8 #[.slice A0 l0.length c0, .string a1] w fun e w' => e = .returned (.bool r) ∧ Below w.heap.size w w' := by
  obtain ⟨c, h1, h⟩ := Option.bind_eq_some_iff.1 h
  obtain ⟨⟨x0, x1, x2, x3, x4, x5, ok⟩, h2, h⟩ := Option.bind_eq_some_iff.1 h
  obtain ⟨m, h3, h⟩ := Option.bind_eq_some_iff.1 h
  obtain ⟨⟨y0, y1, y2, y3, y4, y5, has⟩, h4, h⟩ := Option.bind_eq_some_iff.1 h
  obtain ⟨s, h5, h⟩ := Option.bind_eq_some_iff.1 h
  obtain ⟨t, h6, h⟩ := Option.bind_eq_some_iff.1 h
  dsimp only at h h5 h4 h2
  simp only [Option.ite_none_right_eq_some, Option.some.injEq] at h
  obtain ⟨⟨hlen, rfl, rfl, rfl⟩, rfl⟩ := h
  have K1 := Lib.hid h1
  have K2 := Lib.hid h2
  have K3 := Lib.hid h3
  have K4 := Lib.hid h4
  have K5 := Lib.hid h5
  have K6 := Lib.hid h6
  have KL := Lib.hid hlen
  have HR := Lib.hid hr0
  have HC := Lib.hid hc0
  have HV := Lib.hid (fun V : World => wicketlaw11_live.calls true V rfl)
  clear h1 h2 h3 h4 h5 h6 hlen hr0 hc0
  go_enter Tryz.func8, Tryz.ntmps8
  go_wp2_with (fail)
  refine (wicketlaw11_copied.calls k _ _ l0 c _ (by first | exact HR.out | exact Kd.C_alloc HR.out _ | exact Kd.C_drewN HR.out _) HC.out K1.out).mono ?_
  rintro e w1 ⟨vc, rfl, hS1, hb1⟩
  obtain ⟨Ac, cc, rfl⟩ := Kd.S_slice hS1
  have HS1 := Lib.hid hS1
  have HB1 := Lib.hid hb1
  have HR1 := Lib.hid (Kd.C_below HR.out hb1)
  clear hS1 hb1
  go_wp2_with (fail)
  refine (client_Find.calls k _ _ c a1 x0 x1 x2 x3 x4 x5 ok _ (Kd.S_reads' HS1.out).2.2 (Kd.S_reads' HS1.out).2.1 K2.out).mono ?_
  rintro e w2 ⟨vx, rfl, hX, hb2⟩
  obtain ⟨Ax, cx, rfl⟩ := Kd.R_slice hX
  have HX2 := Lib.hid hX
  have HB2 := Lib.hid hb2
  clear hX hb2
  go_wp2_with (fail)
  refine (wicketlaw11_all.calls k _ _ l0 m _ (Kd.C_alloc (Kd.C_below HR1.out HB2.out) _) HC.out K3.out).mono ?_
  rintro e w4 ⟨vm, rfl, hM, hb4⟩
  obtain ⟨Am, cm, rfl⟩ := Kd.S_slice hM
  have BK4 := Lib.hid (blk_below (blk_new w2 _) hb4)
  have HB4 := Lib.hid (below_step (below_alloc HB2.out _) hb4)
  have HX4 := Lib.hid (Kd.R_below (Kd.R_alloc HX2.out _) hb4)
  have HV4 := Lib.hid (Kd.S_V (base' := w4.heap.size) (Kd.S_mono hM (ok' := fun _ => True) (fun _ _ => trivial)))
  have hp0 := (show w1.heap.size ≤ w2.heap.size from HB2.out.size)
  obtain ⟨p, hp⟩ : ∃ p, p = w2.heap.size := ⟨_, rfl⟩
  rw [← hp] at BK4 hp0 ⊢
  have HP := Lib.hid hp0
  clear HB2 HX2 hb4 hM hp hp0
  go_wp2_with (fail)
  refine (wicketref11_Find.calls k _ _ _ m a1 y0 y1 y2 y3 y4 y5 ok _ HV4.out K4.out).mono ?_
  rintro e w5 ⟨vy, rfl, hY, hb5⟩
  obtain ⟨Ay, cy, rfl⟩ := Kd.V_slice hY
  have BK5 := Lib.hid (blk_below BK4.out hb5)
  have HB5 := Lib.hid (below_step HB4.out hb5)
  have HX5 := Lib.hid (Kd.R_below HX4.out hb5)
  have HY5 := Lib.hid hY
  clear BK4 HB4 HX4 HV4 hY hb5
  go_upto_region 4 with (fail)
  have BX := Lib.hid (blk_alloc BK5.out (Obj.cells #[.string y0, .string y1, .int .i64 y2, .bool y3, .string y4, .slice Ay y5.length cy] 43))
  have BY := Lib.hid (blk_new w5 (Obj.cells #[.string y0, .string y1, .int .i64 y2, .bool y3, .string y4, .slice Ay y5.length cy] 43))
  have HB6 := Lib.hid (below_alloc (below_step (w := w) (W := w1) HB1.out (by first | exact below_of_le HB5.out | exact HB5.out)) (Obj.cells #[.string y0, .string y1, .int .i64 y2, .bool y3, .string y4, .slice Ay y5.length cy] 43))
  have HD6 := Lib.hid (HB5.out.alloc HB5.out.size (Obj.cells #[.string y0, .string y1, .int .i64 y2, .bool y3, .string y4, .slice Ay y5.length cy] 43))
  have HX6 := Lib.hid (Kd.R_alloc HX5.out (Obj.cells #[.string y0, .string y1, .int .i64 y2, .bool y3, .string y4, .slice Ay y5.length cy] 43))
  have HY6 := Lib.hid (Kd.V_alloc HY5.out (Obj.cells #[.string y0, .string y1, .int .i64 y2, .bool y3, .string y4, .slice Ay y5.length cy] 43))
  obtain ⟨q, hq⟩ : ∃ q, q = w5.heap.size := ⟨_, rfl⟩
  rw [← hq] at BY ⊢
  generalize hW : w5.alloc (Obj.cells #[.string y0, .string y1, .int .i64 y2, .bool y3, .string y4, .slice Ay y5.length cy] 43) = w6
  rw [hW] at BX BY HB6 HD6 HX6 HY6
  clear hW hq BK5 HB5 HX5 HY5
  have h50 := blk_cell BX.out 0
  have h51 := blk_cell BX.out 1
  have h52 := blk_cell BX.out 2
  have h53 := blk_cell BX.out 3
  have h54 := blk_cell BX.out 4
  have h55 := blk_cell BX.out 5
  have hf0 := blk_frozen BX.out 0
  have hf1 := blk_frozen BX.out 1
  have hf2 := blk_frozen BX.out 2
  have hf3 := blk_frozen BX.out 3
  have hf4 := blk_frozen BX.out 4
  have hf5 := blk_frozen BX.out 5
  have g50 := blk_cell BY.out 0
  have g51 := blk_cell BY.out 1
  have g52 := blk_cell BY.out 2
  have g53 := blk_cell BY.out 3
  have g54 := blk_cell BY.out 4
  have g55 := blk_cell BY.out 5
  have gf0 := blk_frozen BY.out 0
  have gf1 := blk_frozen BY.out 1
  have gf2 := blk_frozen BY.out 2
  have gf3 := blk_frozen BY.out 3
  have gf4 := blk_frozen BY.out 4
  have gf5 := blk_frozen BY.out 5
  have CX6 := Lib.hid (Kd.R_reads' HX6.out).2.2
  have CX7 := Lib.hid (Kd.R_reads' HX6.out).2.1
  have CY6 := Lib.hid (Kd.V_reads' HY6.out).2.2
  have CY7 := Lib.hid (Kd.V_reads' HY6.out).2.1
  go_wp2_with (fail)
  refine (wicketlaw11_same.calls k x0 x1 x2 x3 x4 Ax cx x5 y0 y1 y2 y3 y4 Ay cy y5 true w6 CX6.out CX7.out CY6.out CY7.out K5.out).mono ?_
  rintro e w7 ⟨rfl, hb7⟩
  have BX7 := Lib.hid (blk_below BX.out hb7)
  have HB7 := Lib.hid (below_step HB6.out hb7)
  have HD7 := Lib.hid (below_then HD6.out (HD6.out.size) hb7)
  have HX7 := Lib.hid (Kd.R_below HX6.out hb7)
  clear h50 h51 h52 h53 h54 h55 hf0 hf1 hf2 hf3 hf4 hf5 g50 g51 g52 g53 g54 g55 gf0 gf1 gf2 gf3 gf4 gf5 BX BY HB6 HD6 HX6 HY6 CX6 CX7 CY6 CY7 hb7
  have h50 := blk_cell BX7.out 0
  have h51 := blk_cell BX7.out 1
  have h52 := blk_cell BX7.out 2
  have h53 := blk_cell BX7.out 3
  have h54 := blk_cell BX7.out 4
  have h55 := blk_cell BX7.out 5
  have hf0 := blk_frozen BX7.out 0
  have hf1 := blk_frozen BX7.out 1
  have hf2 := blk_frozen BX7.out 2
  have hf3 := blk_frozen BX7.out 3
  have hf4 := blk_frozen BX7.out 4
  have hf5 := blk_frozen BX7.out 5
  go_wp2_with (fail)
  refine (wicketlaw11_spoil.calls (fun _ => True) _ [⟨x0, x1, x2, x3, x4, x5⟩] w1 _ (by intro z hz; rw [List.mem_singleton.1 hz]; exact KL.out) (HD7.out.alloc HD7.out.size _) (s_single (x := ⟨x0, x1, x2, x3, x4, x5⟩) HX7.out HD7.out.size)).mono ?_
  rintro e w8 ⟨rfl, hb8, -⟩
  have HC8 := Lib.hid (Kd.S_below HS1.out hb8)
  have HB8 := Lib.hid (below_step HB1.out hb8)
  have HR8 := Lib.hid (Kd.C_below HR1.out hb8)
  clear h50 h51 h52 h53 h54 h55 hf0 hf1 hf2 hf3 hf4 hf5 BX7 HB7 HD7 HX7 hb8
  go_wp2_with (fail)
  refine (wicketlaw11_all.calls k _ _ l0 m _ HR8.out HC.out K3.out).mono ?_
  rintro e w9 ⟨vm2, rfl, hM, hb9⟩
  obtain ⟨An, cn, rfl⟩ := Kd.S_slice hM
  have HC9 := Lib.hid (Kd.S_reads' (Kd.S_below HC8.out hb9)).2
  have HM9 := Lib.hid (Kd.S_reads' hM).2
  have HB9 := Lib.hid (below_step HB8.out hb9)
  clear HC8 HB8 HR8 hM hb9
  go_wp2_with (fail)
  refine (wicketlaw11_list.calls k _ _ c _ _ m true _ HC9.out.2 HC9.out.1 HM9.out.2 HM9.out.1 K6.out).mono ?_
  rintro e w10 ⟨rfl, hb10⟩
  have HB10 := Lib.hid (below_step HB9.out hb10)
  clear hb10
  go_wp2_with (fail)
  refine (HV.out _).mono ?_
  rintro e w11 ⟨rfl, hb11⟩
  have HB11 := Lib.hid (below_step HB10.out hb11)
  clear hb11
  go_wp2_with (fail)
  go_ret
  exact ⟨rfl, by repeat (first | (with_reducible first | exact HB11.out | apply below_alloc | apply pw_below_drewN | apply below_drew1) | exact HB11.out)⟩
end Go.Proofs.YtmimipgmhgalaaaGreatDoor.PAll
