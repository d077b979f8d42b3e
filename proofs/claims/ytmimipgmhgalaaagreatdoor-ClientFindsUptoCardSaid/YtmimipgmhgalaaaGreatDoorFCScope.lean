/-
  client.Scope: what the call does, walked by hand: out of the contracts of Scopes, Within and Join.
-/
import Derived.Test.YtmimipgmhgalaaaGreatDoorPAllx2
import Derived.Test.YtmimipgmhgalaaaGreatDoorPAllx3
import Derived.Test.YtmimipgmhgalaaaGreatDoorFStr
import Derived.Lib.Hide
namespace Go.Proofs.YtmimipgmhgalaaaGreatDoor.PAll
open Go.RowKit Go.Proofs.YtmimipgmhgalaaaGreatDoorW.PrintWords Go.Proofs.YtmimipgmhgalaaaGreatDoorW.PrintLast Go.Proofs.YtmimipgmhgalaaaGreatDoorW.PrintMore
set_option linter.unusedVariables false
set_option linter.unusedSimpArgs false
/-- The scopes that are meant. -/
def meantS (l5 : List ByteArray) (a1 : ByteArray) (l : List ByteArray) : List ByteArray := if a1 = ⟨#[]⟩ then l5 else l
def client_Scope.f (k : Nat) (a0_0 a0_1 : ByteArray) (a0_2 : Int) (a0_3 : Bool) (a0_4 : ByteArray) (l0_5 : List ByteArray) (a1 : ByteArray) : Option (ByteArray × Int) :=
  (urlform_Scopes.f k a1).bind fun t => if t.2 = 0 then ((urlform_Within.f k (meantS l0_5 a1 t.1) l0_5).bind fun b => if b = true then ((strings_Join.f (meantS l0_5 a1 t.1) ⟨#[32]⟩).bind fun s => some (s, 0)) else some (⟨#[]⟩, 114)) else some (⟨#[]⟩, 114)
theorem emptyS_no {a : ByteArray} (h : ¬a = ⟨#[]⟩) : (a.toList == ([] : List UInt8)) = false := by
  refine beq_eq_false_iff_ne.mpr fun h1 => h ?_
  obtain ⟨⟨l⟩⟩ := a
  rw [Lib.toList_data] at h1
  exact congrArg (fun l => (⟨⟨l⟩⟩ : ByteArray)) h1
theorem client_Scope.mono : ∀ a0 a1 a2 a3 a4 a5 a6 k, LeO (client_Scope.f k a0 a1 a2 a3 a4 a5 a6) (client_Scope.f (k + 1) a0 a1 a2 a3 a4 a5 a6) := by
  intro a0 a1 a2 a3 a4 a5 a6 k
  unfold client_Scope.f
  refine LeO.bind (urlform_Scopes.mono _ _) (fun _ => LeO.ite (LeO.bind (urlform_Within.mono _ _ _) (fun _ => LeO.refl _)) (LeO.refl _))
set_option maxRecDepth 100000 in
set_option maxHeartbeats 1000000 in
theorem client_Scope.calls (k : Nat) (a0_0 a0_1 : ByteArray) (a0_2 : Int) (a0_3 : Bool) (a0_4 : ByteArray) (A0_5 : Option Addr) (c0_5 : Nat) (l0_5 : List ByteArray) (a1 : ByteArray) (r1 : ByteArray) (r2 : Int) (w : World) (hr0_5 : Kd.C Kd.string w A0_5 l0_5.length l0_5) (hc0_5 : l0_5.length ≤ c0_5)
    (h : client_Scope.f k a0_0 a0_1 a0_2 a0_3 a0_4 l0_5 a1 = some (r1, r2)) :
    Calls Tryz.prog 37 #[.agg #[.string a0_0, .string a0_1, .int .i64 a0_2, .bool a0_3, .string a0_4, .slice A0_5 l0_5.length c0_5], .string a1] w fun e w' => e = .returned (.tuple #[.string r1, .int .i64 r2]) ∧ Below w.heap.size w w' := by
  unfold client_Scope.f at h
  obtain ⟨⟨ls, e⟩, hs, h⟩ := Option.bind_eq_some_iff.1 h
  obtain ⟨n5, hn5⟩ : ∃ n, n = l0_5.length := ⟨_, rfl⟩
  have HS := Lib.hid hs
  have hsc : ∀ V : World, Calls Tryz.prog 54 #[.string a1] V fun e' w' => ∃ (A' : Option Addr) (c' n' : Nat), e' = .returned (.tuple #[.slice A' n' c', .int .i64 e]) ∧ n' = ls.length ∧ n' ≤ c' ∧ Kd.C Kd.string w' A' ls.length ls ∧ Below V.heap.size V w' := fun V => by
    refine (urlform_Scopes.calls k a1 ls e V HS.out).mono fun e' w' ⟨v, he, hR, hb⟩ => ?_
    obtain ⟨A', c', hv, hl, hC⟩ := Kd.R_reads hR
    subst hv
    exact ⟨A', c', _, he, rfl, hl, hC, hb⟩
  have HSC := Lib.hid hsc
  clear hs hsc
  by_cases he : e = 0
  · subst he
    have h1 : (urlform_Within.f k (meantS l0_5 a1 ls) l0_5).bind (fun b => if b = true then ((strings_Join.f (meantS l0_5 a1 ls) ⟨#[32]⟩).bind fun s => some (s, 0)) else some (⟨#[]⟩, 114)) = some (r1, r2) := h
    obtain ⟨b, hb, h2⟩ := Option.bind_eq_some_iff.1 h1
    have hwi : ∀ (V : World) (A' : Option Addr) (c' n' : Nat), n' = (meantS l0_5 a1 ls).length → n' ≤ c' → Kd.C Kd.string V A' (meantS l0_5 a1 ls).length (meantS l0_5 a1 ls) → Below w.heap.size w V → Calls Tryz.prog 72 #[.slice A' n' c', .slice A0_5 n5 c0_5] V fun e' w' => e' = .returned (.bool b) ∧ Below V.heap.size V w' := fun V A' c' n' h3 h4 h5 h6 => by
      subst h3
      rw [hn5]
      exact (urlform_Within.calls k A' c' _ A0_5 c0_5 l0_5 b V h5 h4 (Kd.C_below hr0_5 h6) hc0_5 hb).mono fun e' w' ⟨h7, h8⟩ => ⟨h7, h8.below⟩
    have HWI := Lib.hid hwi
    rw [← hn5]
    by_cases ha : a1 = ⟨#[]⟩
    · have hm : meantS l0_5 a1 ls = l0_5 := if_pos ha
      rw [hm] at h2 HWI
      subst ha
      have HN5 := Lib.hid hn5; have HR := Lib.hid hr0_5; have HC := Lib.hid hc0_5
      have hc5 := Lib.hid (show n5 ≤ c0_5 by rw [hn5]; exact hc0_5)
      clear hn5 hr0_5 hc0_5 hm h h1 hwi hb
      cases b with
      | true =>
        obtain ⟨s, hs, h3⟩ := Option.bind_eq_some_iff.1 (show (strings_Join.f l0_5 ⟨#[32]⟩).bind (fun s => some (s, (0 : Int))) = some (r1, r2) from h2)
        obtain ⟨rfl, rfl⟩ := Prod.mk.inj (Option.some.inj h3)
        have HJ := Lib.hid (fun (V : World) (h5 : Kd.C Kd.string V A0_5 l0_5.length l0_5) => show Calls Tryz.prog 55 #[.slice A0_5 n5 c0_5, .string ⟨#[32]⟩] V (fun e w' => e = .returned (.string s) ∧ Below V.heap.size V w') by rw [HN5.out]; exact strings_Join.calls A0_5 c0_5 l0_5 ⟨#[32]⟩ s V h5 HC.out hs)
        clear h2 h3 hs
        go_enter Tryz.func37, Tryz.ntmps37
        go_wp2_with (first | ((with_reducible refine gate_dst (N := 2) rfl ?_); refine box_event ?hg (N := 2) ?hd (cs := #[.string a0_0, .string a0_1, .int .i64 a0_2, .bool a0_3, .string a0_4, .slice A0_5 n5 c0_5]) (t := 40) ?hr ?_; (case hd => rfl); (case hg => rfl); (case hr => first | (go_simp; done) | (go_simp; rfl)); intro gb hg w3 hbox hb; have GW := Lib.hid ((by rw [hg]; exact Nat.le_refl _) : w.heap.size ≤ gb); have HX := Lib.hid hbox; have HB := Lib.hid hb; clear hg hbox hb))
        refine (HSC.out _).mono ?_
        rintro e1 w4 ⟨A1, c1, n1, rfl, hn1, hl1, hC1, hb1⟩
        have BK := Lib.hid (blk_below (g := gb) (o := .cells #[.string a0_0, .string a0_1, .int .i64 a0_2, .bool a0_3, .string a0_4, .slice A0_5 n5 c0_5] 40 (0, 0)) HX.out hb1)
        have HB2 := Lib.hid (below_step HB.out hb1)
        have hcz := (blk_cell BK.out 5).trans rfl
        have hfz := blk_frozen BK.out 5
        have HN := Lib.hid hn1; have HL := Lib.hid hl1; have HC1 := Lib.hid hC1
        clear hn1 hl1 hC1 hb1 HX HB
        go_wp2_with (first | (go_at_call 72; (with_reducible refine (HWI.out _ _ _ _ HN5.out hc5.out (Kd.C_below HR.out HB2.out) HB2.out).mono ?_); rintro e2 w5 ⟨rfl, hb2⟩; have HB9 := Lib.hid (below_step HB2.out hb2); have HB5 := Lib.hid hb2; clear hb2) | (go_at_call 55; (with_reducible refine (HJ.out _ (Kd.C_below HR.out HB9.out)).mono ?_); rintro e3 w6 ⟨rfl, hb3⟩; have HB8 := HB9; clear HB9; have HB9 := Lib.hid (below_step HB8.out hb3); clear hb3))
        go_ret2
        exact ⟨by first | rfl | (simp [*]; done), by repeat (first | (with_reducible first | exact HB9.out | apply below_alloc | apply pw_below_drewN | apply below_drew1) | exact HB9.out)⟩
      | false =>
        obtain ⟨rfl, rfl⟩ := Prod.mk.inj (Option.some.inj (show some ((⟨#[]⟩ : ByteArray), (114 : Int)) = some (r1, r2) from h2))
        clear h2
        go_enter Tryz.func37, Tryz.ntmps37
        go_wp2_with (first | ((with_reducible refine gate_dst (N := 2) rfl ?_); refine box_event ?hg (N := 2) ?hd (cs := #[.string a0_0, .string a0_1, .int .i64 a0_2, .bool a0_3, .string a0_4, .slice A0_5 n5 c0_5]) (t := 40) ?hr ?_; (case hd => rfl); (case hg => rfl); (case hr => first | (go_simp; done) | (go_simp; rfl)); intro gb hg w3 hbox hb; have GW := Lib.hid ((by rw [hg]; exact Nat.le_refl _) : w.heap.size ≤ gb); have HX := Lib.hid hbox; have HB := Lib.hid hb; clear hg hbox hb))
        refine (HSC.out _).mono ?_
        rintro e1 w4 ⟨A1, c1, n1, rfl, hn1, hl1, hC1, hb1⟩
        have BK := Lib.hid (blk_below (g := gb) (o := .cells #[.string a0_0, .string a0_1, .int .i64 a0_2, .bool a0_3, .string a0_4, .slice A0_5 n5 c0_5] 40 (0, 0)) HX.out hb1)
        have HB2 := Lib.hid (below_step HB.out hb1)
        have hcz := (blk_cell BK.out 5).trans rfl
        have hfz := blk_frozen BK.out 5
        have HN := Lib.hid hn1; have HL := Lib.hid hl1; have HC1 := Lib.hid hC1
        clear hn1 hl1 hC1 hb1 HX HB
        go_wp2_with (first | (go_at_call 72; (with_reducible refine (HWI.out _ _ _ _ HN5.out hc5.out (Kd.C_below HR.out HB2.out) HB2.out).mono ?_); rintro e2 w5 ⟨rfl, hb2⟩; have HB9 := Lib.hid (below_step HB2.out hb2); have HB5 := Lib.hid hb2; clear hb2))
        go_ret2
        exact ⟨by first | rfl | (simp [*]; done), by repeat (first | (with_reducible first | exact HB9.out | apply below_alloc | apply pw_below_drewN | apply below_drew1) | exact HB9.out)⟩
    · have hm : meantS l0_5 a1 ls = ls := if_neg ha
      rw [hm] at h2 HWI
      have hne : (a1.toList == ([] : List UInt8)) = false := emptyS_no ha
      have HN5 := Lib.hid hn5; have HR := Lib.hid hr0_5; have HC := Lib.hid hc0_5
      clear hn5 hr0_5 hc0_5 hm h h1 hwi hb
      cases b with
      | true =>
        obtain ⟨s, hs, h3⟩ := Option.bind_eq_some_iff.1 (show (strings_Join.f ls ⟨#[32]⟩).bind (fun s => some (s, (0 : Int))) = some (r1, r2) from h2)
        obtain ⟨rfl, rfl⟩ := Prod.mk.inj (Option.some.inj h3)
        have HJ := Lib.hid (fun (V : World) (A' : Option Addr) (c' n' : Nat) (h3 : n' = ls.length) (h4 : n' ≤ c') (h5 : Kd.C Kd.string V A' ls.length ls) => show Calls Tryz.prog 55 #[.slice A' n' c', .string ⟨#[32]⟩] V (fun e w' => e = .returned (.string s) ∧ Below V.heap.size V w') by subst h3; exact strings_Join.calls A' c' ls ⟨#[32]⟩ s V h5 h4 hs)
        clear h2 h3 hs
        go_enter Tryz.func37, Tryz.ntmps37
        go_wp2_with (first | ((with_reducible refine gate_dst (N := 2) rfl ?_); refine box_event ?hg (N := 2) ?hd (cs := #[.string a0_0, .string a0_1, .int .i64 a0_2, .bool a0_3, .string a0_4, .slice A0_5 n5 c0_5]) (t := 40) ?hr ?_; (case hd => rfl); (case hg => rfl); (case hr => first | (go_simp; done) | (go_simp; rfl)); intro gb hg w3 hbox hb; have GW := Lib.hid ((by rw [hg]; exact Nat.le_refl _) : w.heap.size ≤ gb); have HX := Lib.hid hbox; have HB := Lib.hid hb; clear hg hbox hb))
        refine (HSC.out _).mono ?_
        rintro e1 w4 ⟨A1, c1, n1, rfl, hn1, hl1, hC1, hb1⟩
        have BK := Lib.hid (blk_below (g := gb) (o := .cells #[.string a0_0, .string a0_1, .int .i64 a0_2, .bool a0_3, .string a0_4, .slice A0_5 n5 c0_5] 40 (0, 0)) HX.out hb1)
        have HB2 := Lib.hid (below_step HB.out hb1)
        have hcz := (blk_cell BK.out 5).trans rfl
        have hfz := blk_frozen BK.out 5
        have HN := Lib.hid hn1; have HL := Lib.hid hl1; have HC1 := Lib.hid hC1
        clear hn1 hl1 hC1 hb1 HX HB
        go_wp2_with (first | (go_at_call 72; (with_reducible refine (HWI.out _ _ _ _ HN.out HL.out HC1.out HB2.out).mono ?_); rintro e2 w5 ⟨rfl, hb2⟩; have HB9 := Lib.hid (below_step HB2.out hb2); have HB5 := Lib.hid hb2; clear hb2) | (go_at_call 55; (with_reducible refine (HJ.out _ _ _ _ HN.out HL.out (Kd.C_below HC1.out HB5.out)).mono ?_); rintro e3 w6 ⟨rfl, hb3⟩; have HB8 := HB9; clear HB9; have HB9 := Lib.hid (below_step HB8.out hb3); clear hb3))
        go_ret2
        exact ⟨by first | rfl | (simp [*]; done), by repeat (first | (with_reducible first | exact HB9.out | apply below_alloc | apply pw_below_drewN | apply below_drew1) | exact HB9.out)⟩
      | false =>
        obtain ⟨rfl, rfl⟩ := Prod.mk.inj (Option.some.inj (show some ((⟨#[]⟩ : ByteArray), (114 : Int)) = some (r1, r2) from h2))
        clear h2
        go_enter Tryz.func37, Tryz.ntmps37
        go_wp2_with (first | ((with_reducible refine gate_dst (N := 2) rfl ?_); refine box_event ?hg (N := 2) ?hd (cs := #[.string a0_0, .string a0_1, .int .i64 a0_2, .bool a0_3, .string a0_4, .slice A0_5 n5 c0_5]) (t := 40) ?hr ?_; (case hd => rfl); (case hg => rfl); (case hr => first | (go_simp; done) | (go_simp; rfl)); intro gb hg w3 hbox hb; have GW := Lib.hid ((by rw [hg]; exact Nat.le_refl _) : w.heap.size ≤ gb); have HX := Lib.hid hbox; have HB := Lib.hid hb; clear hg hbox hb))
        refine (HSC.out _).mono ?_
        rintro e1 w4 ⟨A1, c1, n1, rfl, hn1, hl1, hC1, hb1⟩
        have BK := Lib.hid (blk_below (g := gb) (o := .cells #[.string a0_0, .string a0_1, .int .i64 a0_2, .bool a0_3, .string a0_4, .slice A0_5 n5 c0_5] 40 (0, 0)) HX.out hb1)
        have HB2 := Lib.hid (below_step HB.out hb1)
        have hcz := (blk_cell BK.out 5).trans rfl
        have hfz := blk_frozen BK.out 5
        have HN := Lib.hid hn1; have HL := Lib.hid hl1; have HC1 := Lib.hid hC1
        clear hn1 hl1 hC1 hb1 HX HB
        go_wp2_with (first | (go_at_call 72; (with_reducible refine (HWI.out _ _ _ _ HN.out HL.out HC1.out HB2.out).mono ?_); rintro e2 w5 ⟨rfl, hb2⟩; have HB9 := Lib.hid (below_step HB2.out hb2); have HB5 := Lib.hid hb2; clear hb2))
        go_ret2
        exact ⟨by first | rfl | (simp [*]; done), by repeat (first | (with_reducible first | exact HB9.out | apply below_alloc | apply pw_below_drewN | apply below_drew1) | exact HB9.out)⟩
  · obtain ⟨rfl, rfl⟩ := Prod.mk.inj (Option.some.inj (show some ((⟨#[]⟩ : ByteArray), (114 : Int)) = some (r1, r2) from by rw [← h]; exact (if_neg he).symm))
    have he1 : decide (e = 0) = false := decide_eq_false he
    have HN5 := Lib.hid hn5; have HR := Lib.hid hr0_5; have HC := Lib.hid hc0_5
    rw [← hn5]
    clear h hn5 hr0_5 hc0_5
    by_cases ha : a1 = ⟨#[]⟩
    · subst ha
      go_enter Tryz.func37, Tryz.ntmps37
      go_wp2_with (first | ((with_reducible refine gate_dst (N := 2) rfl ?_); refine box_event ?hg (N := 2) ?hd (cs := #[.string a0_0, .string a0_1, .int .i64 a0_2, .bool a0_3, .string a0_4, .slice A0_5 n5 c0_5]) (t := 40) ?hr ?_; (case hd => rfl); (case hg => rfl); (case hr => first | (go_simp; done) | (go_simp; rfl)); intro gb hg w3 hbox hb; have GW := Lib.hid ((by rw [hg]; exact Nat.le_refl _) : w.heap.size ≤ gb); have HX := Lib.hid hbox; have HB := Lib.hid hb; clear hg hbox hb))
      refine (HSC.out _).mono ?_
      rintro e1 w4 ⟨A1, c1, n1, rfl, hn1, hl1, hC1, hb1⟩
      have BK := Lib.hid (blk_below (g := gb) (o := .cells #[.string a0_0, .string a0_1, .int .i64 a0_2, .bool a0_3, .string a0_4, .slice A0_5 n5 c0_5] 40 (0, 0)) HX.out hb1)
      have HB2 := Lib.hid (below_step HB.out hb1)
      have hcz := (blk_cell BK.out 5).trans rfl
      have hfz := blk_frozen BK.out 5
      have HN := Lib.hid hn1; have HL := Lib.hid hl1; have HC1 := Lib.hid hC1
      clear hn1 hl1 hC1 hb1 HX HB
      have HB9 := HB2
      go_wp2
      go_ret2
      exact ⟨by first | rfl | (simp [*]; done), by repeat (first | (with_reducible first | exact HB9.out | apply below_alloc | apply pw_below_drewN | apply below_drew1) | exact HB9.out)⟩
    · have hne : (a1.toList == ([] : List UInt8)) = false := emptyS_no ha
      go_enter Tryz.func37, Tryz.ntmps37
      go_wp2_with (first | ((with_reducible refine gate_dst (N := 2) rfl ?_); refine box_event ?hg (N := 2) ?hd (cs := #[.string a0_0, .string a0_1, .int .i64 a0_2, .bool a0_3, .string a0_4, .slice A0_5 n5 c0_5]) (t := 40) ?hr ?_; (case hd => rfl); (case hg => rfl); (case hr => first | (go_simp; done) | (go_simp; rfl)); intro gb hg w3 hbox hb; have GW := Lib.hid ((by rw [hg]; exact Nat.le_refl _) : w.heap.size ≤ gb); have HX := Lib.hid hbox; have HB := Lib.hid hb; clear hg hbox hb))
      refine (HSC.out _).mono ?_
      rintro e1 w4 ⟨A1, c1, n1, rfl, hn1, hl1, hC1, hb1⟩
      have BK := Lib.hid (blk_below (g := gb) (o := .cells #[.string a0_0, .string a0_1, .int .i64 a0_2, .bool a0_3, .string a0_4, .slice A0_5 n5 c0_5] 40 (0, 0)) HX.out hb1)
      have HB2 := Lib.hid (below_step HB.out hb1)
      have hcz := (blk_cell BK.out 5).trans rfl
      have hfz := blk_frozen BK.out 5
      have HN := Lib.hid hn1; have HL := Lib.hid hl1; have HC1 := Lib.hid hC1
      clear hn1 hl1 hC1 hb1 HX HB
      have HB9 := HB2
      go_wp2
      go_ret2
      exact ⟨by first | rfl | (simp [*]; done), by repeat (first | (with_reducible first | exact HB9.out | apply below_alloc | apply pw_below_drewN | apply below_drew1) | exact HB9.out)⟩
end Go.Proofs.YtmimipgmhgalaaaGreatDoor.PAll
