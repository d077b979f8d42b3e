/-
  Part 5 of what the proof of ClientWelcome leans on: words of the print, walks of functions and plain laws; put together by pack.py, a program of this session.
-/
import Derived.Shelf.Small.Utf8
import Derived.Shelf.Small.Strs
import Derived.Shelf.Strings.Search1
import Derived.Shelf.Strings.Search2
import Derived.Shelf.Strings.Search3
import Derived.Shelf.Strings.Cut
import Derived.Shelf.Strings.Count
import Derived.Shelf.LaysM
import Derived.Shelf.Strings.Shaped
import Derived.Shelf.Strings.Runes
import Derived.Shelf.Strings.IndexAny
import Derived.Shelf.Strings.AsciiSet
import Derived.Shelf.Strings.IndexAnyAll
import Derived.Shelf.Unicode.DecodeSlow
import Derived.Shelf.Unicode.CaseLookup
import Derived.Shelf.Unicode.CaseConvert
import Derived.Test.YtmimipgmhgalaaaGreatDoorProg
import Derived.Laws.Runes
import Derived.Lib.OthersKept
import Derived.Lib.MapLaws
import Derived.Lib.Hide
import Derived.WalkKit
import Derived.Deep.LoopGhost
import Derived.Deep.QuietTactic
import Derived.BigQuiet
import Derived.RegionTactic
import Derived.IntWalk
import Derived.Lib.IndexMore
import Derived.Lib.SplitLaws
import Derived.Lib.Bytes
import Derived.Lib.LazyBuf
import Derived.Outline
import Derived.Deep.RegionWith
import Derived.Test.YtmimipgmhgalaaaGreatDoorKClientWelcomed
section
namespace Go.Proofs.YtmimipgmhgalaaaGreatDoor.PAll
open Go.RowKit Go.Proofs.YtmimipgmhgalaaaGreatDoorW.PrintWords Go.Proofs.YtmimipgmhgalaaaGreatDoorW.PrintLast Go.Proofs.YtmimipgmhgalaaaGreatDoorW.PrintMore Go.Proofs.YtmimipgmhgalaaaGreatDoor.Plain Go.Proofs.YtmimipgmhgalaaaGreatDoor.Spec Go.Proofs.YtmimipgmhgalaaaGreatDoor.Sha
set_option linter.unusedVariables false
set_option linter.unusedSimpArgs false
def welT.T5 : Bool × List (List Nat × List Nat) := (true, [([], []), ([0], [0]), ([1], [1]), ([], []), ([3], [3]), ([2, 4, 2], [2, 4]), ([5], [5]), ([6], [6]), ([6], [6]), ([], []), ([9, 7, 5, 0, 1, 2, 3, 4, 5, 6, 7, 9], [7, 9]), ([8, 10, 0, 1, 2, 3, 4, 5, 6, 7, 8, 9, 10], [8])])
def welT.B5 : List Nat := [0, 1, 3, 0, 8, 31, 63, 127, 127, 0, 767, 2047]
theorem welT.tab5 : rtab .any (opsOf Tryz.f13 5) = welT.T5 := by kernel_rfl
theorem welT.bits5 : waitsOk welT.T5.2 welT.B5 = true := by kernel_rfl
def welT.T18 : Bool × List (List Nat × List Nat) := (true, [([], []), ([0], [0]), ([1], [1]), ([2, 1], [2]), ([3], [3]), ([4, 3, 3], [3, 4]), ([5, 3], [3, 5]), ([3, 6], [3, 6]), ([7, 5], [7]), ([8], [8]), ([9, 8], [8, 9]), ([8, 10], [8, 10]), ([11, 8], [11]), ([12], [12]), ([12], [12]), ([13, 14, 12, 12], [12, 13, 14]), ([12, 15], [12, 15]), ([16, 15], [16]), ([17], [17]), ([18, 17, 17], [17, 18]), ([19, 17], [17, 19]), ([17, 20], [17, 20]), ([21, 19], [21]), ([22], [22]), ([23, 22, 22], [22, 23]), ([24, 22], [22, 24]), ([22], [22]), ([26, 22], [22, 26]), ([27, 22], [22, 27]), ([25, 28, 22], [22, 25, 28]), ([22, 29], [22, 29]), ([30, 24, 0, 1, 2, 3, 4, 5, 6, 7, 8, 9, 10, 11, 12, 13, 14, 15, 16, 17, 18, 19, 20, 21, 22, 23, 24, 25, 26, 27, 28, 29, 30], [30])])
def welT.B18 : List Nat := [0, 1, 3, 7, 15, 31, 63, 127, 255, 511, 1023, 2047, 4095, 8191, 8191, 32767, 65535, 131071, 262143, 524287, 1048575, 2097151, 4194303, 8388607, 16777215, 33554431, 8388607, 75497471, 209715199, 536870911, 1073741823, 2147483647]
theorem welT.tab18 : rtab .any (opsOf Tryz.f13 18) = welT.T18 := by kernel_rfl
theorem welT.bits18 : waitsOk welT.T18.2 welT.B18 = true := by kernel_rfl
def welT.T8 : Bool × List (List Nat × List Nat) := (true, [([], []), ([0], [0]), ([1], [1]), ([2], [2]), ([], []), ([4], [4]), ([5, 2], [5]), ([3, 6], [3, 6]), ([7], [7]), ([8, 6], [8]), ([9], [9]), ([10, 9, 0, 1, 2, 3, 4, 5, 6, 7, 8, 9, 10], [10])])
def welT.B8 : List Nat := [0, 1, 3, 7, 0, 16, 55, 127, 255, 511, 1023, 2047]
theorem welT.tab8 : rtab .any (opsOf Tryz.f13 8) = welT.T8 := by kernel_rfl
theorem welT.bits8 : waitsOk welT.T8.2 welT.B8 = true := by kernel_rfl
def welT.T9 : Bool × List (List Nat × List Nat) := (true, [([], []), ([0], [0]), ([1], [1]), ([2], [2]), ([], []), ([4], [4]), ([5, 2], [5]), ([3, 6], [3, 6]), ([7], [7]), ([8, 6], [8]), ([9], [9]), ([10, 9, 0, 1, 2, 3, 4, 5, 6, 7, 8, 9, 10], [10])])
def welT.B9 : List Nat := [0, 1, 3, 7, 0, 16, 55, 127, 255, 511, 1023, 2047]
theorem welT.tab9 : rtab .any (opsOf Tryz.f13 9) = welT.T9 := by kernel_rfl
theorem welT.bits9 : waitsOk welT.T9.2 welT.B9 = true := by kernel_rfl
structure WI (w : World) (L : List (Nat × Obj)) (S : List (Option Addr × List ByteArray)) (Ac : Option Addr) (c : List S40) (W : World) : Prop where
 b : Below w.heap.size w W
 o : ∀ p ∈ L, W.heap[p.1]? = some p.2
 s : ∀ p ∈ S, Kd.C Kd.string W p.1 p.2.length p.2
 c : Kd.C k40 W Ac c.length c
theorem WI.step {w : World} {L : List (Nat × Obj)} {S : List (Option Addr × List ByteArray)} {Ac : Option Addr} {c : List S40} {W W' : World} (hb : Below W.heap.size W W') (h : WI w L S Ac c W) : WI w L S Ac c W' :=
 ⟨below_step h.b hb, fun p hp => blk_below (h.o p hp) hb, fun p hp => Kd.C_below (h.s p hp) hb, Kd.C_below h.c hb⟩
theorem WI.drewN {w : World} {L : List (Nat × Obj)} {S : List (Option Addr × List ByteArray)} {Ac : Option Addr} {c : List S40} {W : World} (h : WI w L S Ac c W) (n : Nat) : WI w L S Ac c (W.drewN n) := h.step (pw_below_drewN (Below.refl _ _) n)
theorem WI.alloc {w : World} {L : List (Nat × Obj)} {S : List (Option Addr × List ByteArray)} {Ac : Option Addr} {c : List S40} {W : World} (h : WI w L S Ac c W) (o : Obj) : WI w ((W.heap.size, o) :: L) S Ac c (W.alloc o) := by
 have h1 := h.step (below_alloc (Below.refl _ W) o)
 refine ⟨h1.b, fun p hp => ?_, h1.s, h1.c⟩
 rcases List.mem_cons.1 hp with rfl | hp
 · exact blk_new W o
 · exact h1.o p hp
theorem WI.also {w : World} {L : List (Nat × Obj)} {S : List (Option Addr × List ByteArray)} {Ac : Option Addr} {c : List S40} {W : World} (h : WI w L S Ac c W) {A : Option Addr} {l : List ByteArray} (hl : Kd.C Kd.string W A l.length l) : WI w L ((A, l) :: S) Ac c W :=
 ⟨h.b, h.o, fun p hp => by
  rcases List.mem_cons.1 hp with rfl | hp
  · exact hl
  · exact h.s p hp, h.c⟩
theorem WI.own {w : World} {L : List (Nat × Obj)} {S : List (Option Addr × List ByteArray)} {Ac : Option Addr} {c : List S40} {W : World} (h : WI w L S Ac c W) {q : Nat} {o : Obj} (ho : W.heap[q]? = some o) : WI w ((q, o) :: L) S Ac c W :=
 ⟨h.b, fun p hp => by
  rcases List.mem_cons.1 hp with rfl | hp
  · exact ho
  · exact h.o p hp, h.s, h.c⟩
theorem C_pair1 (W : World) (a b : ByteArray) : Kd.C k68 (W.alloc (.cells #[.string a, .string b] 68)) (some ⟨W.heap.size, 0, none⟩) 1 [⟨a, b⟩] := by
 have h2 := World.ownsRow_lit (base := W.heap.size) (e := 68) (size := 2) W #[.string a, .string b] 1 (Nat.le_refl _) (by decide) rfl
 have h : Kd.R k68 68 (W.alloc (.cells #[.string a, .string b] 68)) W.heap.size (fun _ => True) (.slice (some ⟨W.heap.size, 0, none⟩) 1 1) [(⟨a, b⟩ : S68)] := ⟨fun _ _ => trivial, _, h2, Reps.c2 (p := (⟨a, b⟩ : S68)) (k68_mkM _ _ _ _) (Reps.none _ _)⟩
 exact (Kd.R_reads' h).2.2
theorem C_pair2 (W : World) (a b a' b' : ByteArray) : Kd.C k68 (W.alloc (.cells #[.string a, .string b, .string a', .string b'] 68)) (some ⟨W.heap.size, 0, none⟩) 2 [⟨a, b⟩, ⟨a', b'⟩] := by
 have h2 := World.ownsRow_lit (base := W.heap.size) (e := 68) (size := 2) W #[.string a, .string b, .string a', .string b'] 2 (Nat.le_refl _) (by decide) rfl
 have h : Kd.R k68 68 (W.alloc (.cells #[.string a, .string b, .string a', .string b'] 68)) W.heap.size (fun _ => True) (.slice (some ⟨W.heap.size, 0, none⟩) 2 2) [(⟨a, b⟩ : S68), ⟨a', b'⟩] := ⟨fun _ _ => trivial, _, h2, Reps.c2 (p := (⟨a, b⟩ : S68)) (k68_mkM _ _ _ _) (Reps.c2 (p := (⟨a', b'⟩ : S68)) (k68_mkM _ _ _ _) (Reps.none _ _))⟩
 exact (Kd.R_reads' h).2.2
theorem C_pair0 (W : World) : Kd.C k68 W none ([] : List S68).length [] := (Kd.R_reads' (Kd.R_nil k68 68 W 0 (fun _ => True))).2.2
theorem b64L_len : ∀ l : List Nat, (b64L l).length ≤ 4 * l.length
 | [] => Nat.le_refl _
 | [a] => by simp [b64L]
 | [a, b] => by simp [b64L]
 | a :: b :: c :: r => by
  have := b64L_len r
  simp only [b64L, List.length_cons]
  omega
theorem conv_step {P : Program} {ops : Array Oper} {o : Oper} {a : Act} {W : World} {Kc : Act → World → Prop} {Q : Exit → Act → World → Prop} (hw : Region.wanted o (yielded ops a.tmps) = true) (U : ByteArray)
 (hrun : (execOp a.eval o).run P W = .ok (.value (.slice (some ⟨W.heap.size, 0, none⟩) U.size (grownCap W U.size 0 5))) (Lib.bytesWorld W 5 U)) (hU : U.size ≤ 10000000)
 (h : ∀ g cp w1, Kd.C (Kd.int .u8) w1 (some ⟨g, 0, none⟩) U.size (toI (sN U)) → U.size ≤ cp → Below W.heap.size W w1 → Kc (a.put o.dst (.slice (some ⟨g, 0, none⟩) U.size cp)) w1) :
 if Region.wanted o (yielded ops a.tmps) = true then Oper.wp P o a W Kc Q else Kc (a.put o.dst undef) W := by
 have h1 := C_bytes W U (by omega)
 have e : bytesOf U = toI (sN U) := by unfold bytesOf toI sN; rw [List.map_map]; rfl
 rw [bytesOf_length, e] at h1
 exact event_step hw hrun (h _ _ _ h1 (grownCap_ge ..) (below_bytes W U))
theorem num_quiet (a0 : Int) (w : World) (n : Nat) : Calls Tryz.prog 19 #[.int .i64 a0] (w.drewN n) fun e w'' => e = .returned (.int .i64 a0) ∧ ∃ m, w'' = w.drewN m := Calls.quiet_of ((live_num a0 _).mono fun _ _ h => ⟨h.1, h.2.out⟩)
abbrev gId : ByteArray := ⟨#[99, 108, 105, 101, 110, 116, 95, 105, 100]⟩
abbrev gSecret : ByteArray := ⟨#[99, 108, 105, 101, 110, 116, 95, 115, 101, 99, 114, 101, 116]⟩
def wordB (E F : ByteArray) : ByteArray := (⟨#[66, 97, 115, 105, 99, 32]⟩ : ByteArray) ++ bs (b64L (sN (E ++ (⟨#[58]⟩ : ByteArray) ++ F)))
def badB (E F : ByteArray) : ByteArray := (⟨#[98, 97, 115, 105, 99, 32, 32]⟩ : ByteArray) ++ bs (b64L (sN (E ++ (⟨#[58]⟩ : ByteArray) ++ F)))
def Shown (k : Nat) (w : World) (c : List S40) (x : S40) (ts : ByteArray) : Prop :=
 ∃ (E0 E1 E2 : ByteArray) (X1 : S40) (n1 e1 : Int) (X2 : S40) (n2 e2 : Int) (X3 : S40) (n3 e3 : Int) (X4 : S40) (n4 e4 : Int),
  wicketref03_Escape.f k x.f0 = some E0 ∧ wicketref03_Escape.f k x.f1 = some E1 ∧ wicketref03_Escape.f k ts = some E2 ∧ E0.size ≤ 3145728 ∧ E1.size ≤ 3145728 ∧ E2.size ≤ 3145728 ∧
  AuthAt w c (wordB E0 E1) [] X1 n1 e1 ∧ AuthAt w c ⟨#[]⟩ [⟨gId, x.f0⟩, ⟨gSecret, x.f1⟩] X2 n2 e2 ∧ AuthAt w c (badB E0 E2) [⟨gId, x.f0⟩] X3 n3 e3 ∧ AuthAt w c ⟨#[]⟩ [⟨gSecret, ts⟩, ⟨gId, x.f0⟩] X4 n4 e4 ∧
  ((1024 < (wordB E0 E1).size ∨ 1024 < (badB E0 E2).size) ∨ ((wordB E0 E1).size ≤ 1024 ∧ (badB E0 E2).size ≤ 1024 ∧
   ((x.f1 = ⟨#[]⟩ ∧ e1 = 112 ∧ X2 = x ∧ n2 = 0 ∧ e2 = 0 ∧ e3 = 112 ∧ ((ts = ⟨#[]⟩ ∧ e4 = 0) ∨ (ts.toList ≠ [] ∧ e4 = 112))) ∨
    (x.f1.toList ≠ [] ∧ X1 = x ∧ n1 = 1 ∧ e1 = 0 ∧ X2 = x ∧ n2 = 2 ∧ e2 = 0 ∧ ((ts = x.f1 ∧ e3 = 0 ∧ e4 = 0) ∨ (ts.toList ≠ x.f1.toList ∧ e3 = 112 ∧ e4 = 112))))))
set_option maxRecDepth 100000 in
set_option maxHeartbeats 8000000 in
theorem welcome_walk (k : Nat) (A0 : Option Addr) (c0 : Nat) (l0 : List S40) (tn : Int) (ts a1 : ByteArray) (A4 : Option Addr) (c4 : Nat) (l2 : List S68) (w : World) (hr0 : Kd.C k40 w A0 l0.length l0) (hc0 : l0.length ≤ c0)
 (htn : -9223372036854775808 ≤ tn ∧ tn ≤ 9223372036854775807) (h1 : wicketlaw11_copied.f k l0 = some l0)
 (hall : ∀ T : Nat, tn = T → 0 < l0.length → ∀ x : S40, l0[T % l0.length]? = some x → wicketlaw11_ours.f x.f0 x.f1 x.f2 x.f3 x.f4 x.f5 = some (x.f0, x.f1, x.f2, x.f3, x.f4, x.f5) ∧ ∃ (m : List S43) (y : S40) (e0 : Int),
  wicketlaw11_all.f k l0 = some m ∧ wicketref11_Find.f k m x.f0 = some (y.f0, y.f1, y.f2, y.f3, y.f4, y.f5, true) ∧ wicketref11_Check.f k x.f0 x.f1 x.f2 x.f3 x.f4 x.f5 = some e0 ∧
  (e0 ≠ 0 ∨ (e0 = 0 ∧ ∃ s : Bool, wicketlaw11_same.f k x.f0 x.f1 x.f2 x.f3 x.f4 x.f5 y.f0 y.f1 y.f2 y.f3 y.f4 y.f5 = some s ∧ (s = false ∨ (s = true ∧ y = x ∧ Shown k w l0 x ts))))) :
 Calls Tryz.prog 13 #[.agg #[.slice A0 l0.length c0, .int .i64 tn, .string ts, .string a1, .slice A4 l2.length c4]] w fun e w' => e = .returned (.bool true) ∧ Below w.heap.size w w' := by
 have K1 := Lib.hid h1
 have KH := Lib.hid hall
 have HR := Lib.hid hr0
 have HC := Lib.hid hc0
 have HV := Lib.hid (fun V : World => wicketlaw11_live.calls true V rfl)
 clear h1 hall hr0 hc0
 go_enter Tryz.func13, Tryz.ntmps13
 go_wp2_with ((with_reducible refine gate_dst (N := 1) rfl ?_); refine box_event ?hg (N := 1) ?hd (cs := #[.slice A0 l0.length c0, .int .i64 tn, .string ts, .string a1, .slice A4 l2.length c4]) (t := 74) ?hr ?_; (case hd => rfl); (case hg => rfl); (case hr => first | (go_simp; done) | (go_simp; rfl)); intro b hg w_b hbox hb; have BT := Lib.hid hbox; have HB := Lib.hid hb; have t0 := (blk_cell BT.out 0).trans rfl; clear hbox hg hb)
 refine (wicketlaw11_copied.calls k _ _ l0 l0 _ (Kd.C_below HR.out HB.out) HC.out K1.out).mono ?_
 rintro e w1 ⟨vc, rfl, hS1, hb1⟩
 obtain ⟨Ac, cc, rfl⟩ := Kd.S_slice hS1
 have HI := Lib.hid (show WI w [(b, .cells #[.slice A0 l0.length c0, .int .i64 tn, .string ts, .string a1, .slice A4 l2.length c4] 74 (0, 0))] [] Ac l0 w1 from ⟨below_step HB.out hb1, fun p hp => by rw [List.mem_singleton.1 hp]; exact blk_below BT.out hb1, fun p hp => by simp at hp, (Kd.S_reads' hS1).2.2⟩)
 have HCC := Lib.hid (Kd.S_reads' hS1).2.1
 clear BT HB t0 hS1 hb1
 by_cases h0 : l0.length = 0
 · rw [h0]
   go_wp2_with (fail)
   refine (HV.out _).mono ?_
   rintro e w2 ⟨rfl, hb⟩
   have HI2 := Lib.hid (HI.out.step hb)
   clear hb
   go_wp2_with (fail)
   go_ret
   exact ⟨rfl, HI2.out.b⟩
 have hM0 : ((l0.length : Int) == 0) = false := by simpa using h0
 have hM1 : decide ((l0.length : Int) = 0) = false := by simpa using h0
 have t1 := (blk_cell (HI.out.o _ (.head _)) 1).trans rfl
 by_cases hneg : tn < 0
 · go_wp2_with (fail)
   refine (HV.out _).mono ?_
   rintro e w2 ⟨rfl, hb⟩
   have HI2 := Lib.hid (HI.out.step hb)
   clear hb
   go_wp2_with (fail)
   go_ret
   exact ⟨rfl, HI2.out.b⟩
 obtain ⟨T, rfl⟩ : ∃ T : Nat, tn = T := ⟨tn.toNat, by omega⟩
 go_wp2_with (fail)
 refine (HV.out _).mono ?_
 rintro e w2 ⟨rfl, hb⟩
 have HI2 := Lib.hid (HI.out.step hb)
 clear hb HI t1
 have t1 := (blk_cell (HI2.out.o _ (.head _)) 1).trans rfl
 obtain ⟨q, hq⟩ : ∃ q, T % l0.length = q := ⟨_, rfl⟩
 have hq1 : Int.tmod (T : Int) (l0.length : Int) = (q : Int) := by rw [Int.tmod_eq_emod_of_nonneg (by omega)]; omega
 have hq2 : (T : Int) % (l0.length : Int) = (q : Int) := by omega
 have hq3 : q < l0.length := by rw [← hq]; exact Nat.mod_lt _ (by omega)
 obtain ⟨x, hx⟩ : ∃ x, l0[q] = x := ⟨_, rfl⟩
 obtain ⟨ko, m, y, e0, ka, kf, kc, kd⟩ := KH.out T rfl (by omega) x (by rw [hq, List.getElem?_eq_getElem hq3, hx])
 obtain ⟨ad, Ax, cx, hA, g0, g1, g2, g3, g4, g5, hlx, hix⟩ := at_T40 HI2.out.c (q : Int) (by omega) (by omega)
 subst hA
 have hp : rd_T40 l0 (q : Int) = x := by
  rw [← hx]
  unfold rd_T40
  rw [Int.toNat_natCast, List.getD_eq_getElem?_getD, List.getElem?_eq_getElem hq3]
  rfl
 rw [hp] at g0 g1 g2 g3 g4 g5 hlx hix
 simp only [Int.toNat_natCast] at g0 g1 g2 g3 g4 g5
 have KO := Lib.hid ko
 have KA := Lib.hid ka
 have KF := Lib.hid kf
 have KC := Lib.hid kc
 have KD := Lib.hid kd
 have HLX := Lib.hid hlx
 have HI3 := Lib.hid ((HI2.out.also hix).alloc (.cells #[.string x.f0, .string x.f1, .int .i64 x.f2, .bool x.f3, .string x.f4, .slice Ax x.f5.length cx] 40 (0, 0)))
 clear ko ka kf kc kd hlx hix hp hx hq KH
 go_upto_region 5 with (fail)
 obtain ⟨z, hz⟩ : ∃ z, z = w2.heap.size := ⟨_, rfl⟩
 rw [← hz] at HI3 ⊢
 generalize hW : w2.alloc (.cells #[.string x.f0, .string x.f1, .int .i64 x.f2, .bool x.f3, .string x.f4, .slice Ax x.f5.length cx] 40 (0, 0)) = w3
 rw [hW] at HI3
 clear hW hz g0 g1 g2 g3 g4 g5 t1 HI2 hq1 hq2
 have BT2 := Lib.hid (HI3.out.o _ (.tail _ (.head _)))
 have BZ2 := Lib.hid (HI3.out.o _ (.head _))
 have HR2 := Lib.hid (Kd.C_below HR.out HI3.out.b)
 go_cut [5, 6] (fun v5 v6 wc => ∃ (y' : Nat) (Ay : Option Addr) (cy : Nat), v5 = .pointer (some ⟨y', 0, none⟩) ∧ v6 = .bool true ∧ Hid (wc.heap[y']? = some (.cells #[.string y.f0, .string y.f1, .int .i64 y.f2, .bool y.f3, .string y.f4, .slice Ay y.f5.length cy] 43 (0, 0))) ∧ Hid (y.f5.length ≤ cy ∧ Kd.C Kd.string wc Ay y.f5.length y.f5) ∧ Hid (Below w3.heap.size w3 wc))
 case first =>
  have HG := Lib.hid (below_drew1 (Below.refl w3.heap.size w3))
  refine start_ (n := 12) (S := fun w' => w'.cell? ⟨b, 0, none⟩ = some (.slice A0 l0.length c0) ∧ w'.cell? ⟨z, 0, none⟩ = some (.string x.f0)) (ds := []) #[false, false, false, false, false, false, false, false, false, false, false, false] (by kernel_rfl) rfl rfl ⟨(blk_cell (blk_below BT2.out HG.out) 0).trans rfl, (blk_cell (blk_below BZ2.out HG.out) 0).trans rfl⟩ (fun hHeld => ?_); refine with_tabW welT.tab5 welT.bits5 (fun HT_ HW_ => ?_)
  generalize World.drew _ = w5 at HG hHeld ⊢
  refine pure_ (i := 0) (N := some 47) (v := ?_) (a' := ?_) #[true, false, false, false, false, false, false, false, false, false, false, false] rfl rfl (any_of HT_.out (by kernel_rfl)) (fun _ _ _ h => h) (Or.inl ⟨by rfl, ?_⟩) ?_ ?_
  rotate_left
  · intro w'
    go_simp
    with_reducible rfl
  rotate_left
  · simp only [Act.put, List.setIfInBounds_toArray, List.set_cons_zero, List.set_cons_succ, i64_w, i32_w]
    rfl
  refine pure_ (i := 3) (N := some 50) (v := ?_) (a' := ?_) #[true, false, false, true, false, false, false, false, false, false, false, false] rfl rfl (any_of HT_.out (by kernel_rfl)) (fun _ _ _ h => h) (Or.inl ⟨by rfl, ?_⟩) ?_ ?_
  rotate_left
  · intro w'
    go_simp
    with_reducible rfl
  rotate_left
  · simp only [Act.put, List.setIfInBounds_toArray, List.set_cons_zero, List.set_cons_succ, i64_w, i32_w]
    rfl
  refine take_ (i := 1) (N := some 48) (v := ?_) (a' := ?_) #[true, true, false, true, false, false, false, false, false, false, false, false] rfl rfl (take_ofW HT_.out HW_.out (by kernel_rfl)) (fun _ _ _ h => h) (Or.inl ⟨by rfl, ?_⟩) hHeld ?_ ?_
  rotate_left
  · rintro w' ⟨s0, s1⟩
    go_simp
    with_reducible rfl
  rotate_left
  · simp only [Act.put, List.setIfInBounds_toArray, List.set_cons_zero, List.set_cons_succ, i64_w, i32_w]
    rfl
  refine take_ (i := 4) (N := some 51) (v := ?_) (a' := ?_) #[true, true, false, true, true, false, false, false, false, false, false, false] rfl rfl (take_ofW HT_.out HW_.out (by kernel_rfl)) (fun _ _ _ h => h) (Or.inl ⟨by rfl, ?_⟩) hHeld ?_ ?_
  rotate_left
  · rintro w' ⟨s0, s1⟩
    go_simp
    with_reducible rfl
  rotate_left
  · simp only [Act.put, List.setIfInBounds_toArray, List.set_cons_zero, List.set_cons_succ, i64_w, i32_w]
    rfl
  refine two_ (i := 2) (j := 9) (Ni := some 49) (Nj := some 5) #[true, true, true, true, true, false, false, false, false, false, false, false] #[true, true, false, true, true, false, false, false, false, true, false, false] rfl rfl rfl rfl (two_of HT_.out (by kernel_rfl)) (by decide) (by decide) (fun K hK => ?_) (fun K hK => ?_)
  · refine goes_ Tryz.func18 (by kernel_rfl) rfl #[.slice A0 l0.length c0] (by rfl) rfl rfl (by first | rfl | ((try simp only [List.map_toArray, List.map_cons, List.map_nil]); first | done | rfl | (simp only [List.length_drop, List.length_take]; rfl))) ?_
    with_reducible refine (wicketlaw11_all.calls k _ _ l0 m _ (Kd.C_below HR2.out HG.out) HC.out KA.out).mono ?_
    rintro e wq ⟨vm, rfl, hM, hb⟩
    refine ⟨_, rfl, ?_⟩
    obtain ⟨Am, cm, rfl⟩ := Kd.S_slice hM
    have HM := Lib.hid hM
    have HG' := Lib.hid (below_step HG.out hb)
    clear HG
    have HG := HG'
    clear HG'
    clear hM hb
    refine hK.out _ _ ⟨(blk_cell (blk_below BT2.out HG.out) 0).trans rfl, (blk_cell (blk_below BZ2.out HG.out) 0).trans rfl⟩ (fun hHeld => ?_)
    clear hK K
    refine norm_ (a' := ?_) ?_ ?_
    rotate_left
    · show Act.put _ (some 49) _ = _
      simp only [Act.put, List.setIfInBounds_toArray, List.set_cons_zero, List.set_cons_succ, i64_w, i32_w]
      rfl
    refine two_ (i := 5) (j := 9) (Ni := some 52) (Nj := some 5) #[true, true, true, true, true, true, false, false, false, false, false, false] #[true, true, true, true, true, false, false, false, false, true, false, false] rfl rfl rfl rfl (two_of HT_.out (by kernel_rfl)) (by decide) (by decide) (fun K hK => ?_) (fun K hK => ?_)
    · refine goes_ Tryz.func30 (by kernel_rfl) rfl #[.slice Am m.length cm, .string x.f0] (by rfl) rfl rfl (by first | rfl | ((try simp only [List.map_toArray, List.map_cons, List.map_nil]); first | done | rfl | (simp only [List.length_drop, List.length_take]; rfl))) ?_
      refine (wicketref11_Find.calls k (fun _ => True) _ _ m x.f0 y.f0 y.f1 y.f2 y.f3 y.f4 y.f5 true _ (Kd.S_V (base' := World.heap _ |>.size) HM.out) KF.out).mono ?_
      rintro e wq ⟨vy, rfl, hY, hb⟩
      refine ⟨_, rfl, ?_⟩
      obtain ⟨Ay, cy, rfl⟩ := Kd.V_slice hY
      have HY := Lib.hid hY
      have HG' := Lib.hid (below_step HG.out hb)
      clear HG
      have HG := HG'
      clear HG'
      clear hY hb HM
      refine hK.out _ _ ⟨(blk_cell (blk_below BT2.out HG.out) 0).trans rfl, (blk_cell (blk_below BZ2.out HG.out) 0).trans rfl⟩ (fun hHeld => ?_)
      clear hK K
      refine norm_ (a' := ?_) ?_ ?_
      rotate_left
      · show Act.put _ (some 52) _ = _
        simp only [Act.put, List.setIfInBounds_toArray, List.set_cons_zero, List.set_cons_succ, i64_w, i32_w]
        rfl
      refine pure_ (i := 6) (N := some 46) (v := ?_) (a' := ?_) #[true, true, true, true, true, true, true, false, false, false, false, false] rfl rfl (any_of HT_.out (by kernel_rfl)) (fun _ _ _ h => h) (Or.inl ⟨by rfl, ?_⟩) ?_ ?_
      rotate_left
      · intro w'
        go_simp
        with_reducible rfl
      rotate_left
      · simp only [Act.put, List.setIfInBounds_toArray, List.set_cons_zero, List.set_cons_succ, i64_w, i32_w]
        rfl
      refine pure_ (i := 7) (N := some 53) (v := ?_) (a' := ?_) #[true, true, true, true, true, true, true, true, false, false, false, false] rfl rfl (any_of HT_.out (by kernel_rfl)) (fun _ _ _ h => h) (Or.inl ⟨by rfl, ?_⟩) ?_ ?_
      rotate_left
      · intro w'
        go_simp
        with_reducible rfl
      rotate_left
      · simp only [Act.put, List.setIfInBounds_toArray, List.set_cons_zero, List.set_cons_succ, i64_w, i32_w]
        rfl
      refine pure_ (i := 8) (N := some 54) (v := ?_) (a' := ?_) #[true, true, true, true, true, true, true, true, true, false, false, false] rfl rfl (any_of HT_.out (by kernel_rfl)) (fun _ _ _ h => h) (Or.inl ⟨by rfl, ?_⟩) ?_ ?_
      rotate_left
      · intro w'
        go_simp
        with_reducible rfl
      rotate_left
      · simp only [Act.put, List.setIfInBounds_toArray, List.set_cons_zero, List.set_cons_succ, i64_w, i32_w]
        rfl
      refine one_ (i := 9) (N := some 5) #[true, true, true, true, true, true, true, true, true, true, false, false] rfl rfl (one_of HT_.out (by kernel_rfl)) (by decide) (fun K hK => ?_)
      refine box_step ?hg (N := 5) ?hd (cs := #[.string ⟨#[]⟩, .string ⟨#[]⟩, .int .i64 0, .bool false, .string ⟨#[]⟩, .slice none 0 0]) (t := 43) ?hr ?_; (case hd => rfl); (case hg => rfl); (case hr => first | (go_simp; done) | (go_simp; rfl))
      intro yb hz wq hbox hb
      have YB := Lib.hid (show w3.heap.size ≤ yb by rw [hz]; exact HG.out.size)
      have HG' := Lib.hid (below_step HG.out hb)
      have HY' := Lib.hid (Kd.V_mono (Kd.V_below (Kd.V_elderB HY.out yb (Nat.le_of_eq hz.symm)) hb) (ok' := fun q => q ≠ yb) (fun _ hq => hq.2))
      clear HG HY
      have HG := HG'
      have HY := HY'
      clear HG' HY'
      have BY := Lib.hid hbox
      clear hz hbox hb
      refine hK.out _ _ ⟨(blk_cell (blk_below BT2.out HG.out) 0).trans rfl, (blk_cell (blk_below BZ2.out HG.out) 0).trans rfl⟩ (fun hHeld => ?_)
      clear hK K
      refine norm_ (a' := ?_) ?_ ?_
      rotate_left
      · show Act.put _ (some 5) _ = _
        simp only [Act.put, List.setIfInBounds_toArray, List.set_cons_zero, List.set_cons_succ, i64_w, i32_w]
        rfl
      refine one_ (i := 10) (N := none) #[true, true, true, true, true, true, true, true, true, true, true, false] rfl rfl (one_of HT_.out (by kernel_rfl)) (by decide) (fun K hK => ?_)
      obtain ⟨c60, c61, c62, c63, c64, c65, f60, f61, f62, f63, f64, f65⟩ := cz6_ BY.out
      refine skip_ (w1 := ?_) rfl rfl ?_ ?_
      rotate_left
      · go_simp
        rfl
      have BY' := Lib.hid (put6_ BY.out (.string y.f0) (.string y.f1) (.int .i64 y.f2) (.bool y.f3) (.string y.f4) (.slice Ay y.f5.length cy))
      have HY' := Lib.hid (V_far6 (b0 := .string y.f0) (b1 := .string y.f1) (b2 := .int .i64 y.f2) (b3 := .bool y.f3) (b4 := .string y.f4) (b5 := .slice Ay y.f5.length cy) HY.out (fun _ h => h))
      have HG' := Lib.hid (below_six HG.out YB.out (.string y.f0) (.string y.f1) (.int .i64 y.f2) (.bool y.f3) (.string y.f4) (.slice Ay y.f5.length cy))
      clear c60 c61 c62 c63 c64 c65 f60 f61 f62 f63 f64 f65
      clear BY HY HG
      have BY := BY'
      have HY := HY'
      have HG := HG'
      clear BY' HY' HG'
      refine hK.out _ _ ⟨(blk_cell (blk_below BT2.out HG.out) 0).trans rfl, (blk_cell (blk_below BZ2.out HG.out) 0).trans rfl⟩ (fun hHeld => ?_)
      clear hK K
      refine pure_ (i := 11) (N := some 6) (v := ?_) (a' := ?_) #[true, true, true, true, true, true, true, true, true, true, true, true] rfl rfl (any_of HT_.out (by kernel_rfl)) (fun _ _ _ h => h) (Or.inl ⟨by rfl, ?_⟩) ?_ ?_
      rotate_left
      · intro w'
        go_simp
        with_reducible rfl
      rotate_left
      · simp only [Act.put, List.setIfInBounds_toArray, List.set_cons_zero, List.set_cons_succ, i64_w, i32_w]
        rfl
      refine done_ (done_of HT_.out (by kernel_rfl)) ?_
      try go_wp2_with (fail)
      go_meet
      case rel => exact ⟨yb, Ay, cy, rfl, rfl, BY, Lib.hid (Kd.V_reads' HY.out).2, HG⟩
    · refine box_step ?hg (N := 5) ?hd (cs := #[.string ⟨#[]⟩, .string ⟨#[]⟩, .int .i64 0, .bool false, .string ⟨#[]⟩, .slice none 0 0]) (t := 43) ?hr ?_; (case hd => rfl); (case hg => rfl); (case hr => first | (go_simp; done) | (go_simp; rfl))
      intro yb hz wq hbox hb
      have YB := Lib.hid (show w3.heap.size ≤ yb by rw [hz]; exact HG.out.size)
      have HG' := Lib.hid (below_step HG.out hb)
      have HM' := Lib.hid (Kd.S_below (Kd.S_mono (Kd.S_bound HM.out) (ok' := fun q => q ≠ yb) (fun q hq => by have := hq.2.2.1; omega)) hb)
      clear HG HM
      have HG := HG'
      have HM := HM'
      clear HG' HM'
      have BY := Lib.hid hbox
      clear hz hbox hb
      refine hK.out _ _ ⟨(blk_cell (blk_below BT2.out HG.out) 0).trans rfl, (blk_cell (blk_below BZ2.out HG.out) 0).trans rfl⟩ (fun hHeld => ?_)
      clear hK K
      refine norm_ (a' := ?_) ?_ ?_
      rotate_left
      · show Act.put _ (some 5) _ = _
        simp only [Act.put, List.setIfInBounds_toArray, List.set_cons_zero, List.set_cons_succ, i64_w, i32_w]
        rfl
      refine one_ (i := 5) (N := some 52) #[true, true, true, true, true, true, false, false, false, true, false, false] rfl rfl (one_of HT_.out (by kernel_rfl)) (by decide) (fun K hK => ?_)
      refine goes_ Tryz.func30 (by kernel_rfl) rfl #[.slice Am m.length cm, .string x.f0] (by rfl) rfl rfl (by first | rfl | ((try simp only [List.map_toArray, List.map_cons, List.map_nil]); first | done | rfl | (simp only [List.length_drop, List.length_take]; rfl))) ?_
      refine (wicketref11_Find.calls k (fun q => q ≠ yb) _ _ m x.f0 y.f0 y.f1 y.f2 y.f3 y.f4 y.f5 true _ (Kd.S_V (base' := World.heap _ |>.size) HM.out) KF.out).mono ?_
      rintro e wq ⟨vy, rfl, hY, hb⟩
      refine ⟨_, rfl, ?_⟩
      obtain ⟨Ay, cy, rfl⟩ := Kd.V_slice hY
      have HY := Lib.hid (Kd.V_mono hY (ok' := fun q => q ≠ yb) (fun q hq => by have := blk_lt BY.out; rcases hq with h | h; exact h; omega))
      have HG' := Lib.hid (below_step HG.out hb)
      have BY' := Lib.hid (blk_below BY.out hb)
      clear HG BY
      have HG := HG'
      have BY := BY'
      clear HG' BY'
      clear hY hb HM
      refine hK.out _ _ ⟨(blk_cell (blk_below BT2.out HG.out) 0).trans rfl, (blk_cell (blk_below BZ2.out HG.out) 0).trans rfl⟩ (fun hHeld => ?_)
      clear hK K
      refine norm_ (a' := ?_) ?_ ?_
      rotate_left
      · show Act.put _ (some 52) _ = _
        simp only [Act.put, List.setIfInBounds_toArray, List.set_cons_zero, List.set_cons_succ, i64_w, i32_w]
        rfl
      refine pure_ (i := 6) (N := some 46) (v := ?_) (a' := ?_) #[true, true, true, true, true, true, true, false, false, true, false, false] rfl rfl (any_of HT_.out (by kernel_rfl)) (fun _ _ _ h => h) (Or.inl ⟨by rfl, ?_⟩) ?_ ?_
      rotate_left
      · intro w'
        go_simp
        with_reducible rfl
      rotate_left
      · simp only [Act.put, List.setIfInBounds_toArray, List.set_cons_zero, List.set_cons_succ, i64_w, i32_w]
        rfl
      refine pure_ (i := 7) (N := some 53) (v := ?_) (a' := ?_) #[true, true, true, true, true, true, true, true, false, true, false, false] rfl rfl (any_of HT_.out (by kernel_rfl)) (fun _ _ _ h => h) (Or.inl ⟨by rfl, ?_⟩) ?_ ?_
      rotate_left
      · intro w'
        go_simp
        with_reducible rfl
      rotate_left
      · simp only [Act.put, List.setIfInBounds_toArray, List.set_cons_zero, List.set_cons_succ, i64_w, i32_w]
        rfl
      refine pure_ (i := 8) (N := some 54) (v := ?_) (a' := ?_) #[true, true, true, true, true, true, true, true, true, true, false, false] rfl rfl (any_of HT_.out (by kernel_rfl)) (fun _ _ _ h => h) (Or.inl ⟨by rfl, ?_⟩) ?_ ?_
      rotate_left
      · intro w'
        go_simp
        with_reducible rfl
      rotate_left
      · simp only [Act.put, List.setIfInBounds_toArray, List.set_cons_zero, List.set_cons_succ, i64_w, i32_w]
        rfl
      refine one_ (i := 10) (N := none) #[true, true, true, true, true, true, true, true, true, true, true, false] rfl rfl (one_of HT_.out (by kernel_rfl)) (by decide) (fun K hK => ?_)
      obtain ⟨c60, c61, c62, c63, c64, c65, f60, f61, f62, f63, f64, f65⟩ := cz6_ BY.out
      refine skip_ (w1 := ?_) rfl rfl ?_ ?_
      rotate_left
      · go_simp
        rfl
      have BY' := Lib.hid (put6_ BY.out (.string y.f0) (.string y.f1) (.int .i64 y.f2) (.bool y.f3) (.string y.f4) (.slice Ay y.f5.length cy))
      have HY' := Lib.hid (V_far6 (b0 := .string y.f0) (b1 := .string y.f1) (b2 := .int .i64 y.f2) (b3 := .bool y.f3) (b4 := .string y.f4) (b5 := .slice Ay y.f5.length cy) HY.out (fun _ h => h))
      have HG' := Lib.hid (below_six HG.out YB.out (.string y.f0) (.string y.f1) (.int .i64 y.f2) (.bool y.f3) (.string y.f4) (.slice Ay y.f5.length cy))
      clear c60 c61 c62 c63 c64 c65 f60 f61 f62 f63 f64 f65
      clear BY HY HG
      have BY := BY'
      have HY := HY'
      have HG := HG'
      clear BY' HY' HG'
      refine hK.out _ _ ⟨(blk_cell (blk_below BT2.out HG.out) 0).trans rfl, (blk_cell (blk_below BZ2.out HG.out) 0).trans rfl⟩ (fun hHeld => ?_)
      clear hK K
      refine pure_ (i := 11) (N := some 6) (v := ?_) (a' := ?_) #[true, true, true, true, true, true, true, true, true, true, true, true] rfl rfl (any_of HT_.out (by kernel_rfl)) (fun _ _ _ h => h) (Or.inl ⟨by rfl, ?_⟩) ?_ ?_
      rotate_left
      · intro w'
        go_simp
        with_reducible rfl
      rotate_left
      · simp only [Act.put, List.setIfInBounds_toArray, List.set_cons_zero, List.set_cons_succ, i64_w, i32_w]
        rfl
      refine done_ (done_of HT_.out (by kernel_rfl)) ?_
      try go_wp2_with (fail)
      go_meet
      case rel => exact ⟨yb, Ay, cy, rfl, rfl, BY, Lib.hid (Kd.V_reads' HY.out).2, HG⟩
  · refine box_step ?hg (N := 5) ?hd (cs := #[.string ⟨#[]⟩, .string ⟨#[]⟩, .int .i64 0, .bool false, .string ⟨#[]⟩, .slice none 0 0]) (t := 43) ?hr ?_; (case hd => rfl); (case hg => rfl); (case hr => first | (go_simp; done) | (go_simp; rfl))
    intro yb hz wq hbox hb
    have YB := Lib.hid (show w3.heap.size ≤ yb by rw [hz]; exact HG.out.size)
    have HG' := Lib.hid (below_step HG.out hb)
    clear HG
    have HG := HG'
    clear HG'
    have BY := Lib.hid hbox
    clear hz hbox hb
    refine hK.out _ _ ⟨(blk_cell (blk_below BT2.out HG.out) 0).trans rfl, (blk_cell (blk_below BZ2.out HG.out) 0).trans rfl⟩ (fun hHeld => ?_)
    clear hK K
    refine norm_ (a' := ?_) ?_ ?_
    rotate_left
    · show Act.put _ (some 5) _ = _
      simp only [Act.put, List.setIfInBounds_toArray, List.set_cons_zero, List.set_cons_succ, i64_w, i32_w]
      rfl
    refine one_ (i := 2) (N := some 49) #[true, true, true, true, true, false, false, false, false, true, false, false] rfl rfl (one_of HT_.out (by kernel_rfl)) (by decide) (fun K hK => ?_)
    refine goes_ Tryz.func18 (by kernel_rfl) rfl #[.slice A0 l0.length c0] (by rfl) rfl rfl (by first | rfl | ((try simp only [List.map_toArray, List.map_cons, List.map_nil]); first | done | rfl | (simp only [List.length_drop, List.length_take]; rfl))) ?_
    with_reducible refine (wicketlaw11_all.calls k _ _ l0 m _ (Kd.C_below HR2.out HG.out) HC.out KA.out).mono ?_
    rintro e wq ⟨vm, rfl, hM, hb⟩
    refine ⟨_, rfl, ?_⟩
    obtain ⟨Am, cm, rfl⟩ := Kd.S_slice hM
    have HM := Lib.hid (Kd.S_mono (Kd.S_bound hM) (ok' := fun q => q ≠ yb) (fun q hq => by have := hq.2.1; have := blk_lt BY.out; omega))
    have HG' := Lib.hid (below_step HG.out hb)
    have BY' := Lib.hid (blk_below BY.out hb)
    clear HG BY
    have HG := HG'
    have BY := BY'
    clear HG' BY'
    clear hM hb
    refine hK.out _ _ ⟨(blk_cell (blk_below BT2.out HG.out) 0).trans rfl, (blk_cell (blk_below BZ2.out HG.out) 0).trans rfl⟩ (fun hHeld => ?_)
    clear hK K
    refine norm_ (a' := ?_) ?_ ?_
    rotate_left
    · show Act.put _ (some 49) _ = _
      simp only [Act.put, List.setIfInBounds_toArray, List.set_cons_zero, List.set_cons_succ, i64_w, i32_w]
      rfl
    refine one_ (i := 5) (N := some 52) #[true, true, true, true, true, true, false, false, false, true, false, false] rfl rfl (one_of HT_.out (by kernel_rfl)) (by decide) (fun K hK => ?_)
    refine goes_ Tryz.func30 (by kernel_rfl) rfl #[.slice Am m.length cm, .string x.f0] (by rfl) rfl rfl (by first | rfl | ((try simp only [List.map_toArray, List.map_cons, List.map_nil]); first | done | rfl | (simp only [List.length_drop, List.length_take]; rfl))) ?_
    refine (wicketref11_Find.calls k (fun q => q ≠ yb) _ _ m x.f0 y.f0 y.f1 y.f2 y.f3 y.f4 y.f5 true _ (Kd.S_V (base' := World.heap _ |>.size) HM.out) KF.out).mono ?_
    rintro e wq ⟨vy, rfl, hY, hb⟩
    refine ⟨_, rfl, ?_⟩
    obtain ⟨Ay, cy, rfl⟩ := Kd.V_slice hY
    have HY := Lib.hid (Kd.V_mono hY (ok' := fun q => q ≠ yb) (fun q hq => by have := blk_lt BY.out; rcases hq with h | h; exact h; omega))
    have HG' := Lib.hid (below_step HG.out hb)
    have BY' := Lib.hid (blk_below BY.out hb)
    clear HG BY
    have HG := HG'
    have BY := BY'
    clear HG' BY'
    clear hY hb HM
    refine hK.out _ _ ⟨(blk_cell (blk_below BT2.out HG.out) 0).trans rfl, (blk_cell (blk_below BZ2.out HG.out) 0).trans rfl⟩ (fun hHeld => ?_)
    clear hK K
    refine norm_ (a' := ?_) ?_ ?_
    rotate_left
    · show Act.put _ (some 52) _ = _
      simp only [Act.put, List.setIfInBounds_toArray, List.set_cons_zero, List.set_cons_succ, i64_w, i32_w]
      rfl
    refine pure_ (i := 6) (N := some 46) (v := ?_) (a' := ?_) #[true, true, true, true, true, true, true, false, false, true, false, false] rfl rfl (any_of HT_.out (by kernel_rfl)) (fun _ _ _ h => h) (Or.inl ⟨by rfl, ?_⟩) ?_ ?_
    rotate_left
    · intro w'
      go_simp
      with_reducible rfl
    rotate_left
    · simp only [Act.put, List.setIfInBounds_toArray, List.set_cons_zero, List.set_cons_succ, i64_w, i32_w]
      rfl
    refine pure_ (i := 7) (N := some 53) (v := ?_) (a' := ?_) #[true, true, true, true, true, true, true, true, false, true, false, false] rfl rfl (any_of HT_.out (by kernel_rfl)) (fun _ _ _ h => h) (Or.inl ⟨by rfl, ?_⟩) ?_ ?_
    rotate_left
    · intro w'
      go_simp
      with_reducible rfl
    rotate_left
    · simp only [Act.put, List.setIfInBounds_toArray, List.set_cons_zero, List.set_cons_succ, i64_w, i32_w]
      rfl
    refine pure_ (i := 8) (N := some 54) (v := ?_) (a' := ?_) #[true, true, true, true, true, true, true, true, true, true, false, false] rfl rfl (any_of HT_.out (by kernel_rfl)) (fun _ _ _ h => h) (Or.inl ⟨by rfl, ?_⟩) ?_ ?_
    rotate_left
    · intro w'
      go_simp
      with_reducible rfl
    rotate_left
    · simp only [Act.put, List.setIfInBounds_toArray, List.set_cons_zero, List.set_cons_succ, i64_w, i32_w]
      rfl
    refine one_ (i := 10) (N := none) #[true, true, true, true, true, true, true, true, true, true, true, false] rfl rfl (one_of HT_.out (by kernel_rfl)) (by decide) (fun K hK => ?_)
    obtain ⟨c60, c61, c62, c63, c64, c65, f60, f61, f62, f63, f64, f65⟩ := cz6_ BY.out
    refine skip_ (w1 := ?_) rfl rfl ?_ ?_
    rotate_left
    · go_simp
      rfl
    have BY' := Lib.hid (put6_ BY.out (.string y.f0) (.string y.f1) (.int .i64 y.f2) (.bool y.f3) (.string y.f4) (.slice Ay y.f5.length cy))
    have HY' := Lib.hid (V_far6 (b0 := .string y.f0) (b1 := .string y.f1) (b2 := .int .i64 y.f2) (b3 := .bool y.f3) (b4 := .string y.f4) (b5 := .slice Ay y.f5.length cy) HY.out (fun _ h => h))
    have HG' := Lib.hid (below_six HG.out YB.out (.string y.f0) (.string y.f1) (.int .i64 y.f2) (.bool y.f3) (.string y.f4) (.slice Ay y.f5.length cy))
    clear c60 c61 c62 c63 c64 c65 f60 f61 f62 f63 f64 f65
    clear BY HY HG
    have BY := BY'
    have HY := HY'
    have HG := HG'
    clear BY' HY' HG'
    refine hK.out _ _ ⟨(blk_cell (blk_below BT2.out HG.out) 0).trans rfl, (blk_cell (blk_below BZ2.out HG.out) 0).trans rfl⟩ (fun hHeld => ?_)
    clear hK K
    refine pure_ (i := 11) (N := some 6) (v := ?_) (a' := ?_) #[true, true, true, true, true, true, true, true, true, true, true, true] rfl rfl (any_of HT_.out (by kernel_rfl)) (fun _ _ _ h => h) (Or.inl ⟨by rfl, ?_⟩) ?_ ?_
    rotate_left
    · intro w'
      go_simp
      with_reducible rfl
    rotate_left
    · simp only [Act.put, List.setIfInBounds_toArray, List.set_cons_zero, List.set_cons_succ, i64_w, i32_w]
      rfl
    refine done_ (done_of HT_.out (by kernel_rfl)) ?_
    try go_wp2_with (fail)
    go_meet
    case rel => exact ⟨yb, Ay, cy, rfl, rfl, BY, Lib.hid (Kd.V_reads' HY.out).2, HG⟩
 case rest =>
  obtain ⟨yb, Ay, cy, rfl, rfl, BY, HY, HG⟩ := hcut
  have HLY := Lib.hid HY.out.1
  have HI4 := Lib.hid (((HI3.out.step HG.out).also HY.out.2).own BY.out)
  clear HI3 HY HG BY HR2 BT2 BZ2 KA KF
  obtain ⟨c60, c61, c62, c63, c64, c65, f60, f61, f62, f63, f64, f65⟩ := cz6_ (HI4.out.o _ (.tail _ (.head _)))
  go_wp2_with (fail)
  refine (wicketlaw11_ours.calls x.f0 x.f1 x.f2 x.f3 x.f4 Ax cx x.f5 x.f0 x.f1 x.f2 x.f3 x.f4 x.f5 _ (HI4.out.s _ (.tail _ (.head _))) HLX.out KO.out).mono ?_
  rintro e w4 ⟨vo, rfl, hO, hb⟩
  obtain ⟨Ao, co, rfl⟩ := Kd.R_slice hO
  have HO := Lib.hid (Kd.R_reads' hO).2
  have HI5 := Lib.hid (HI4.out.step hb)
  clear hO hb HI4 c60 c61 c62 c63 c64 c65 f60 f61 f62 f63 f64 f65
  go_wp2_with (fail)
  refine (wicketref11_Check.calls k x.f0 x.f1 x.f2 x.f3 x.f4 Ao co x.f5 e0 _ HO.out.2 HO.out.1 KC.out).mono ?_
  rintro e w5 ⟨rfl, hb⟩
  have HI6 := Lib.hid (HI5.out.step hb)
  clear hb HI5 HO KO KC
  rcases KD.out with hne | ⟨rfl, s, ks, hsv⟩
  · have e1 : (e0 != 0) = true := by simp [hne]
    go_wp2_with (fail)
    go_ret
    exact ⟨rfl, HI6.out.b⟩
  have KS := Lib.hid ks
  have KV := Lib.hid hsv
  clear ks hsv KD
  obtain ⟨c60, c61, c62, c63, c64, c65, f60, f61, f62, f63, f64, f65⟩ := cz6_ (HI6.out.o _ (.tail _ (.head _)))
  obtain ⟨d60, d61, d62, d63, d64, d65, g60, g61, g62, g63, g64, g65⟩ := cz6_ (HI6.out.o _ (.head _))
  go_wp2_with (fail)
  refine (wicketlaw11_same.calls k x.f0 x.f1 x.f2 x.f3 x.f4 Ax cx x.f5 y.f0 y.f1 y.f2 y.f3 y.f4 Ay cy y.f5 s _ (HI6.out.s _ (.tail _ (.head _))) HLX.out (HI6.out.s _ (.head _)) HLY.out KS.out).mono ?_
  rintro e w7 ⟨rfl, hb⟩
  have HI7 := Lib.hid (HI6.out.step hb)
  clear hb HI6 c60 c61 c62 c63 c64 c65 f60 f61 f62 f63 f64 f65 d60 d61 d62 d63 d64 d65 g60 g61 g62 g63 g64 g65
  rcases KV.out with rfl | ⟨rfl, rfl, hsh⟩
  · go_wp2_with (fail)
    go_ret
    exact ⟨rfl, HI7.out.b⟩
  obtain ⟨E0, E1, E2, X1, n1, e1, X2, n2, e2, X3, n3, e3, X4, n4, e4, ke0, ke1, ke2, z0, z1, z2, ha1, ha2, ha3, ha4, hfin⟩ := hsh
  have KE0 := Lib.hid ke0
  have KE1 := Lib.hid ke1
  have KE2 := Lib.hid ke2
  have KA1 := Lib.hid ha1
  have KA2 := Lib.hid ha2
  have KA3 := Lib.hid ha3
  have KA4 := Lib.hid ha4
  have KFin := Lib.hid hfin
  clear ke0 ke1 ke2 ha1 ha2 ha3 ha4 hfin KV
  go_upto_region 8 with (fail)
  have HIr := HI7
  go_cut [7] (fun v wc => v = .string (wordB E0 E1) ∧ Hid (WI w [(yb, .cells #[.string y.f0, .string y.f1, .int .i64 y.f2, .bool y.f3, .string y.f4, .slice Ay y.f5.length cy] 43 (0, 0)), (z, .cells #[.string y.f0, .string y.f1, .int .i64 y.f2, .bool y.f3, .string y.f4, .slice Ax y.f5.length cx] 40 (0, 0)), (b, .cells #[.slice A0 l0.length c0, .int .i64 (T : Int), .string ts, .string a1, .slice A4 l2.length c4] 74 (0, 0))] [(Ay, y.f5), (Ax, y.f5)] (some ad) l0 wc))
  case first =>
   have zf : (9223372036854775807 < E0.size + 1) = False := eq_false (by omega)
   have zg : (9223372036854775807 < E0.size + 1 + E1.size) = False := eq_false (by omega)
   have HU := Lib.hid (show ByteArray.size (E0 ++ (⟨#[58]⟩ : ByteArray) ++ E1) ≤ 10000000 by rw [ByteArray.size_append, ByteArray.size_append]; show E0.size + 1 + E1.size ≤ _; omega)
   have HV64 := Lib.hid (show (bs (b64L (sN (E0 ++ (⟨#[58]⟩ : ByteArray) ++ E1)))).size ≤ 40000000 by rw [bs_size]; have := b64L_len (sN (E0 ++ (⟨#[58]⟩ : ByteArray) ++ E1)); rw [sN_len] at this; have := HU.out; omega)
   have HJ := Lib.hid (HIr.out.step (below_drew1 (Below.refl _ _)))
   refine start_ (n := 12) (S := fun w' => w'.cell? ⟨z, 0, none⟩ = some (.string y.f0) ∧ w'.cell? ⟨z, 1, none⟩ = some (.string y.f1)) (ds := []) #[false, false, false, false, false, false, false, false, false, false, false, false] (by kernel_rfl) rfl rfl ⟨(blk_cell (HJ.out.o _ (.tail _ (.head _))) 0).trans rfl, (blk_cell (HJ.out.o _ (.tail _ (.head _))) 1).trans rfl⟩ (fun hHeld => ?_); refine with_tabW welT.tab8 welT.bits8 (fun HT_ HW_ => ?_)
   generalize World.drew _ = w5 at HJ hHeld ⊢
   refine pure_ (i := 0) (N := some 65) (v := ?_) (a' := ?_) #[true, false, false, false, false, false, false, false, false, false, false, false] rfl rfl (any_of HT_.out (by kernel_rfl)) (fun _ _ _ h => h) (Or.inl ⟨by rfl, ?_⟩) ?_ ?_
   rotate_left
   · intro w'
     go_simp
     with_reducible rfl
   rotate_left
   · simp only [Act.put, List.setIfInBounds_toArray, List.set_cons_zero, List.set_cons_succ, i64_w, i32_w]
     rfl
   refine pure_ (i := 4) (N := some 69) (v := ?_) (a' := ?_) #[true, false, false, false, true, false, false, false, false, false, false, false] rfl rfl (any_of HT_.out (by kernel_rfl)) (fun _ _ _ h => h) (Or.inl ⟨by rfl, ?_⟩) ?_ ?_
   rotate_left
   · intro w'
     go_simp
     with_reducible rfl
   rotate_left
   · simp only [Act.put, List.setIfInBounds_toArray, List.set_cons_zero, List.set_cons_succ, i64_w, i32_w]
     rfl
   refine take_ (i := 1) (N := some 66) (v := ?_) (a' := ?_) #[true, true, false, false, true, false, false, false, false, false, false, false] rfl rfl (take_ofW HT_.out HW_.out (by kernel_rfl)) (fun _ _ _ h => h) (Or.inl ⟨by rfl, ?_⟩) hHeld ?_ ?_
   rotate_left
   · rintro w' ⟨s0, s1⟩
     go_simp
     with_reducible rfl
   rotate_left
   · simp only [Act.put, List.setIfInBounds_toArray, List.set_cons_zero, List.set_cons_succ, i64_w, i32_w]
     rfl
   refine take_ (i := 5) (N := some 70) (v := ?_) (a' := ?_) #[true, true, false, false, true, true, false, false, false, false, false, false] rfl rfl (take_ofW HT_.out HW_.out (by kernel_rfl)) (fun _ _ _ h => h) (Or.inl ⟨by rfl, ?_⟩) hHeld ?_ ?_
   rotate_left
   · rintro w' ⟨s0, s1⟩
     go_simp
     with_reducible rfl
   rotate_left
   · simp only [Act.put, List.setIfInBounds_toArray, List.set_cons_zero, List.set_cons_succ, i64_w, i32_w]
     rfl
   refine one_ (i := 2) (N := some 67) #[true, true, true, false, true, true, false, false, false, false, false, false] rfl rfl (one_of HT_.out (by kernel_rfl)) (by decide) (fun K hK => ?_)
   refine goes_ Tryz.func41 (by kernel_rfl) rfl #[.string y.f0] (by rfl) rfl rfl (by first | rfl | ((try simp only [List.map_toArray, List.map_cons, List.map_nil]); first | done | rfl | (simp only [List.length_drop, List.length_take]; rfl))) ?_
   with_reducible refine (wicketref03_Escape.calls k y.f0 E0 _ KE0.out).mono ?_
   rintro e wq ⟨rfl, hb⟩
   refine ⟨_, rfl, ?_⟩
   have HJ' := Lib.hid (HJ.out.step hb)
   clear HJ
   have HJ := HJ'
   clear HJ'
   clear hb
   refine hK.out _ _ ⟨(blk_cell (HJ.out.o _ (.tail _ (.head _))) 0).trans rfl, (blk_cell (HJ.out.o _ (.tail _ (.head _))) 1).trans rfl⟩ (fun hHeld => ?_)
   clear hK K
   refine norm_ (a' := ?_) ?_ ?_
   rotate_left
   · show Act.put _ (some 67) _ = _
     simp only [Act.put, List.setIfInBounds_toArray, List.set_cons_zero, List.set_cons_succ, i64_w, i32_w]
     rfl
   refine pure_ (i := 3) (N := some 68) (v := ?_) (a' := ?_) #[true, true, true, true, true, true, false, false, false, false, false, false] rfl rfl (any_of HT_.out (by kernel_rfl)) (fun _ _ _ h => h) (Or.inl ⟨by rfl, ?_⟩) ?_ ?_
   rotate_left
   · intro w'
     go_simp
     with_reducible rfl
   rotate_left
   · simp only [Act.put, List.setIfInBounds_toArray, List.set_cons_zero, List.set_cons_succ, i64_w, i32_w]
     rfl
   refine one_ (i := 6) (N := some 71) #[true, true, true, true, true, true, true, false, false, false, false, false] rfl rfl (one_of HT_.out (by kernel_rfl)) (by decide) (fun K hK => ?_)
   refine goes_ Tryz.func41 (by kernel_rfl) rfl #[.string y.f1] (by rfl) rfl rfl (by first | rfl | ((try simp only [List.map_toArray, List.map_cons, List.map_nil]); first | done | rfl | (simp only [List.length_drop, List.length_take]; rfl))) ?_
   with_reducible refine (wicketref03_Escape.calls k y.f1 E1 _ KE1.out).mono ?_
   rintro e wq ⟨rfl, hb⟩
   refine ⟨_, rfl, ?_⟩
   have HJ' := Lib.hid (HJ.out.step hb)
   clear HJ
   have HJ := HJ'
   clear HJ'
   clear hb
   refine hK.out _ _ ⟨(blk_cell (HJ.out.o _ (.tail _ (.head _))) 0).trans rfl, (blk_cell (HJ.out.o _ (.tail _ (.head _))) 1).trans rfl⟩ (fun hHeld => ?_)
   clear hK K
   refine norm_ (a' := ?_) ?_ ?_
   rotate_left
   · show Act.put _ (some 71) _ = _
     simp only [Act.put, List.setIfInBounds_toArray, List.set_cons_zero, List.set_cons_succ, i64_w, i32_w]
     rfl
   refine pure_ (i := 7) (N := some 72) (v := ?_) (a' := ?_) #[true, true, true, true, true, true, true, true, false, false, false, false] rfl rfl (any_of HT_.out (by kernel_rfl)) (fun _ _ _ h => h) (Or.inl ⟨by rfl, ?_⟩) ?_ ?_
   rotate_left
   · intro w'
     go_simp
     with_reducible rfl
   rotate_left
   · simp only [Act.put, List.setIfInBounds_toArray, List.set_cons_zero, List.set_cons_succ, i64_w, i32_w]
     rfl
   refine one_ (i := 8) (N := some 73) #[true, true, true, true, true, true, true, true, true, false, false, false] rfl rfl (one_of HT_.out (by kernel_rfl)) (by decide) (fun K hK => ?_)
   have kb := fun W => print_bytes (P := Tryz.prog) 9 79 5 Tryz.underlying9 Tryz.underlying79 Tryz.underlying5 (E0 ++ (⟨#[58]⟩ : ByteArray) ++ E1) W
   refine conv_step rfl (E0 ++ (⟨#[58]⟩ : ByteArray) ++ E1) ?hr HU.out ?_; (case hr => first | (go_simp; done) | (go_simp; rfl))
   clear kb
   intro g cp wq hC8 hcp hb
   have HC8 := Lib.hid hC8
   clear hC8 hcp
   have HJ' := Lib.hid (HJ.out.step hb)
   clear HJ
   have HJ := HJ'
   clear HJ'
   clear hb
   refine hK.out _ _ ⟨(blk_cell (HJ.out.o _ (.tail _ (.head _))) 0).trans rfl, (blk_cell (HJ.out.o _ (.tail _ (.head _))) 1).trans rfl⟩ (fun hHeld => ?_)
   clear hK K
   refine norm_ (a' := ?_) ?_ ?_
   rotate_left
   · show Act.put _ (some 73) _ = _
     simp only [Act.put, List.setIfInBounds_toArray, List.set_cons_zero, List.set_cons_succ, i64_w, i32_w]
     rfl
   refine one_ (i := 9) (N := some 74) #[true, true, true, true, true, true, true, true, true, true, false, false] rfl rfl (one_of HT_.out (by kernel_rfl)) (by decide) (fun K hK => ?_)
   have hcall := wicketlaw11_base64.calls (some ⟨g, 0, none⟩) cp (sN (E0 ++ (⟨#[58]⟩ : ByteArray) ++ E1)) _ (sN_all _) (by rw [sN_len]; have := HU.out; omega) (by rw [sN_len]; exact HC8.out)
   rw [sN_len] at hcall
   refine goes_ Tryz.func40 (by kernel_rfl) rfl #[.slice (some ⟨g, 0, none⟩) (ByteArray.size (E0 ++ (⟨#[58]⟩ : ByteArray) ++ E1)) cp] (by rfl) rfl rfl (by first | rfl | ((try simp only [List.map_toArray, List.map_cons, List.map_nil]); first | done | rfl | (simp only [List.length_drop, List.length_take]; rfl))) ?_
   refine hcall.mono ?_
   rintro e wq ⟨rfl, hb⟩
   refine ⟨_, rfl, ?_⟩
   clear hcall HC8
   have HJ' := Lib.hid (HJ.out.step hb)
   clear HJ
   have HJ := HJ'
   clear HJ'
   clear hb
   have hV := HV64.out
   have zh : (9223372036854775807 < 6 + (bs (b64L (sN (E0 ++ (⟨#[58]⟩ : ByteArray) ++ E1)))).size) = False := eq_false (by omega)
   generalize hVe : bs (b64L (sN (E0 ++ (⟨#[58]⟩ : ByteArray) ++ E1))) = VB at hV zh ⊢
   have HVe := Lib.hid hVe
   clear hVe
   refine hK.out _ _ ⟨(blk_cell (HJ.out.o _ (.tail _ (.head _))) 0).trans rfl, (blk_cell (HJ.out.o _ (.tail _ (.head _))) 1).trans rfl⟩ (fun hHeld => ?_)
   clear hK K
   refine norm_ (a' := ?_) ?_ ?_
   rotate_left
   · show Act.put _ (some 74) _ = _
     simp only [Act.put, List.setIfInBounds_toArray, List.set_cons_zero, List.set_cons_succ, i64_w, i32_w]
     rfl
   refine pure_ (i := 10) (N := some 75) (v := ?_) (a' := ?_) #[true, true, true, true, true, true, true, true, true, true, true, false] rfl rfl (any_of HT_.out (by kernel_rfl)) (fun _ _ _ h => h) (Or.inl ⟨by rfl, ?_⟩) ?_ ?_
   rotate_left
   · intro w'
     go_simp
     with_reducible rfl
   rotate_left
   · simp only [Act.put, List.setIfInBounds_toArray, List.set_cons_zero, List.set_cons_succ, i64_w, i32_w]
     rfl
   refine pure_ (i := 11) (N := some 7) (v := ?_) (a' := ?_) #[true, true, true, true, true, true, true, true, true, true, true, true] rfl rfl (any_of HT_.out (by kernel_rfl)) (fun _ _ _ h => h) (Or.inl ⟨by rfl, ?_⟩) ?_ ?_
   rotate_left
   · intro w'
     go_simp
     with_reducible rfl
   rotate_left
   · simp only [Act.put, List.setIfInBounds_toArray, List.set_cons_zero, List.set_cons_succ, i64_w, i32_w]
     rfl
   refine done_ (done_of HT_.out (by kernel_rfl)) ?_
   try go_wp2_with (fail)
   go_meet
   case rel => exact ⟨by show Value.string (⟨#[66, 97, 115, 105, 99, 32]⟩ ++ VB) = _; rw [← HVe.out]; rfl, HJ⟩
  case rest =>
   obtain ⟨rfl, HI8⟩ := hcut
   go_upto_region 9 with (fail)
   have HIr := HI8
   go_cut [8] (fun v wc => v = .string (badB E0 E2) ∧ Hid (WI w [(yb, .cells #[.string y.f0, .string y.f1, .int .i64 y.f2, .bool y.f3, .string y.f4, .slice Ay y.f5.length cy] 43 (0, 0)), (z, .cells #[.string y.f0, .string y.f1, .int .i64 y.f2, .bool y.f3, .string y.f4, .slice Ax y.f5.length cx] 40 (0, 0)), (b, .cells #[.slice A0 l0.length c0, .int .i64 (T : Int), .string ts, .string a1, .slice A4 l2.length c4] 74 (0, 0))] [(Ay, y.f5), (Ax, y.f5)] (some ad) l0 wc))
   case first =>
    have zf : (9223372036854775807 < E0.size + 1) = False := eq_false (by omega)
    have zg : (9223372036854775807 < E0.size + 1 + E2.size) = False := eq_false (by omega)
    have HU := Lib.hid (show ByteArray.size (E0 ++ (⟨#[58]⟩ : ByteArray) ++ E2) ≤ 10000000 by rw [ByteArray.size_append, ByteArray.size_append]; show E0.size + 1 + E2.size ≤ _; omega)
    have HV64 := Lib.hid (show (bs (b64L (sN (E0 ++ (⟨#[58]⟩ : ByteArray) ++ E2)))).size ≤ 40000000 by rw [bs_size]; have := b64L_len (sN (E0 ++ (⟨#[58]⟩ : ByteArray) ++ E2)); rw [sN_len] at this; have := HU.out; omega)
    have HJ := Lib.hid (HIr.out.step (below_drew1 (Below.refl _ _)))
    refine start_ (n := 12) (S := fun w' => w'.cell? ⟨z, 0, none⟩ = some (.string y.f0) ∧ w'.cell? ⟨b, 2, none⟩ = some (.string ts)) (ds := []) #[false, false, false, false, false, false, false, false, false, false, false, false] (by kernel_rfl) rfl rfl ⟨(blk_cell (HJ.out.o _ (.tail _ (.head _))) 0).trans rfl, (blk_cell (HJ.out.o _ (.tail _ (.tail _ (.head _)))) 2).trans rfl⟩ (fun hHeld => ?_); refine with_tabW welT.tab9 welT.bits9 (fun HT_ HW_ => ?_)
    generalize World.drew _ = w5 at HJ hHeld ⊢
    refine pure_ (i := 0) (N := some 76) (v := ?_) (a' := ?_) #[true, false, false, false, false, false, false, false, false, false, false, false] rfl rfl (any_of HT_.out (by kernel_rfl)) (fun _ _ _ h => h) (Or.inl ⟨by rfl, ?_⟩) ?_ ?_
    rotate_left
    · intro w'
      go_simp
      with_reducible rfl
    rotate_left
    · simp only [Act.put, List.setIfInBounds_toArray, List.set_cons_zero, List.set_cons_succ, i64_w, i32_w]
      rfl
    refine pure_ (i := 4) (N := some 80) (v := ?_) (a' := ?_) #[true, false, false, false, true, false, false, false, false, false, false, false] rfl rfl (any_of HT_.out (by kernel_rfl)) (fun _ _ _ h => h) (Or.inl ⟨by rfl, ?_⟩) ?_ ?_
    rotate_left
    · intro w'
      go_simp
      with_reducible rfl
    rotate_left
    · simp only [Act.put, List.setIfInBounds_toArray, List.set_cons_zero, List.set_cons_succ, i64_w, i32_w]
      rfl
    refine take_ (i := 1) (N := some 77) (v := ?_) (a' := ?_) #[true, true, false, false, true, false, false, false, false, false, false, false] rfl rfl (take_ofW HT_.out HW_.out (by kernel_rfl)) (fun _ _ _ h => h) (Or.inl ⟨by rfl, ?_⟩) hHeld ?_ ?_
    rotate_left
    · rintro w' ⟨s0, s1⟩
      go_simp
      with_reducible rfl
    rotate_left
    · simp only [Act.put, List.setIfInBounds_toArray, List.set_cons_zero, List.set_cons_succ, i64_w, i32_w]
      rfl
    refine take_ (i := 5) (N := some 81) (v := ?_) (a' := ?_) #[true, true, false, false, true, true, false, false, false, false, false, false] rfl rfl (take_ofW HT_.out HW_.out (by kernel_rfl)) (fun _ _ _ h => h) (Or.inl ⟨by rfl, ?_⟩) hHeld ?_ ?_
    rotate_left
    · rintro w' ⟨s0, s1⟩
      go_simp
      with_reducible rfl
    rotate_left
    · simp only [Act.put, List.setIfInBounds_toArray, List.set_cons_zero, List.set_cons_succ, i64_w, i32_w]
      rfl
    refine one_ (i := 2) (N := some 78) #[true, true, true, false, true, true, false, false, false, false, false, false] rfl rfl (one_of HT_.out (by kernel_rfl)) (by decide) (fun K hK => ?_)
    refine goes_ Tryz.func41 (by kernel_rfl) rfl #[.string y.f0] (by rfl) rfl rfl (by first | rfl | ((try simp only [List.map_toArray, List.map_cons, List.map_nil]); first | done | rfl | (simp only [List.length_drop, List.length_take]; rfl))) ?_
    with_reducible refine (wicketref03_Escape.calls k y.f0 E0 _ KE0.out).mono ?_
    rintro e wq ⟨rfl, hb⟩
    refine ⟨_, rfl, ?_⟩
    have HJ' := Lib.hid (HJ.out.step hb)
    clear HJ
    have HJ := HJ'
    clear HJ'
    clear hb
    refine hK.out _ _ ⟨(blk_cell (HJ.out.o _ (.tail _ (.head _))) 0).trans rfl, (blk_cell (HJ.out.o _ (.tail _ (.tail _ (.head _)))) 2).trans rfl⟩ (fun hHeld => ?_)
    clear hK K
    refine norm_ (a' := ?_) ?_ ?_
    rotate_left
    · show Act.put _ (some 78) _ = _
      simp only [Act.put, List.setIfInBounds_toArray, List.set_cons_zero, List.set_cons_succ, i64_w, i32_w]
      rfl
    refine pure_ (i := 3) (N := some 79) (v := ?_) (a' := ?_) #[true, true, true, true, true, true, false, false, false, false, false, false] rfl rfl (any_of HT_.out (by kernel_rfl)) (fun _ _ _ h => h) (Or.inl ⟨by rfl, ?_⟩) ?_ ?_
    rotate_left
    · intro w'
      go_simp
      with_reducible rfl
    rotate_left
    · simp only [Act.put, List.setIfInBounds_toArray, List.set_cons_zero, List.set_cons_succ, i64_w, i32_w]
      rfl
    refine one_ (i := 6) (N := some 82) #[true, true, true, true, true, true, true, false, false, false, false, false] rfl rfl (one_of HT_.out (by kernel_rfl)) (by decide) (fun K hK => ?_)
    refine goes_ Tryz.func41 (by kernel_rfl) rfl #[.string ts] (by rfl) rfl rfl (by first | rfl | ((try simp only [List.map_toArray, List.map_cons, List.map_nil]); first | done | rfl | (simp only [List.length_drop, List.length_take]; rfl))) ?_
    with_reducible refine (wicketref03_Escape.calls k ts E2 _ KE2.out).mono ?_
    rintro e wq ⟨rfl, hb⟩
    refine ⟨_, rfl, ?_⟩
    have HJ' := Lib.hid (HJ.out.step hb)
    clear HJ
    have HJ := HJ'
    clear HJ'
    clear hb
    refine hK.out _ _ ⟨(blk_cell (HJ.out.o _ (.tail _ (.head _))) 0).trans rfl, (blk_cell (HJ.out.o _ (.tail _ (.tail _ (.head _)))) 2).trans rfl⟩ (fun hHeld => ?_)
    clear hK K
    refine norm_ (a' := ?_) ?_ ?_
    rotate_left
    · show Act.put _ (some 82) _ = _
      simp only [Act.put, List.setIfInBounds_toArray, List.set_cons_zero, List.set_cons_succ, i64_w, i32_w]
      rfl
    refine pure_ (i := 7) (N := some 83) (v := ?_) (a' := ?_) #[true, true, true, true, true, true, true, true, false, false, false, false] rfl rfl (any_of HT_.out (by kernel_rfl)) (fun _ _ _ h => h) (Or.inl ⟨by rfl, ?_⟩) ?_ ?_
    rotate_left
    · intro w'
      go_simp
      with_reducible rfl
    rotate_left
    · simp only [Act.put, List.setIfInBounds_toArray, List.set_cons_zero, List.set_cons_succ, i64_w, i32_w]
      rfl
    refine one_ (i := 8) (N := some 84) #[true, true, true, true, true, true, true, true, true, false, false, false] rfl rfl (one_of HT_.out (by kernel_rfl)) (by decide) (fun K hK => ?_)
    have kb := fun W => print_bytes (P := Tryz.prog) 9 79 5 Tryz.underlying9 Tryz.underlying79 Tryz.underlying5 (E0 ++ (⟨#[58]⟩ : ByteArray) ++ E2) W
    refine conv_step rfl (E0 ++ (⟨#[58]⟩ : ByteArray) ++ E2) ?hr HU.out ?_; (case hr => first | (go_simp; done) | (go_simp; rfl))
    clear kb
    intro g cp wq hC8 hcp hb
    have HC8 := Lib.hid hC8
    clear hC8 hcp
    have HJ' := Lib.hid (HJ.out.step hb)
    clear HJ
    have HJ := HJ'
    clear HJ'
    clear hb
    refine hK.out _ _ ⟨(blk_cell (HJ.out.o _ (.tail _ (.head _))) 0).trans rfl, (blk_cell (HJ.out.o _ (.tail _ (.tail _ (.head _)))) 2).trans rfl⟩ (fun hHeld => ?_)
    clear hK K
    refine norm_ (a' := ?_) ?_ ?_
    rotate_left
    · show Act.put _ (some 84) _ = _
      simp only [Act.put, List.setIfInBounds_toArray, List.set_cons_zero, List.set_cons_succ, i64_w, i32_w]
      rfl
    refine one_ (i := 9) (N := some 85) #[true, true, true, true, true, true, true, true, true, true, false, false] rfl rfl (one_of HT_.out (by kernel_rfl)) (by decide) (fun K hK => ?_)
    have hcall := wicketlaw11_base64.calls (some ⟨g, 0, none⟩) cp (sN (E0 ++ (⟨#[58]⟩ : ByteArray) ++ E2)) _ (sN_all _) (by rw [sN_len]; have := HU.out; omega) (by rw [sN_len]; exact HC8.out)
    rw [sN_len] at hcall
    refine goes_ Tryz.func40 (by kernel_rfl) rfl #[.slice (some ⟨g, 0, none⟩) (ByteArray.size (E0 ++ (⟨#[58]⟩ : ByteArray) ++ E2)) cp] (by rfl) rfl rfl (by first | rfl | ((try simp only [List.map_toArray, List.map_cons, List.map_nil]); first | done | rfl | (simp only [List.length_drop, List.length_take]; rfl))) ?_
    refine hcall.mono ?_
    rintro e wq ⟨rfl, hb⟩
    refine ⟨_, rfl, ?_⟩
    clear hcall HC8
    have HJ' := Lib.hid (HJ.out.step hb)
    clear HJ
    have HJ := HJ'
    clear HJ'
    clear hb
    have hV := HV64.out
    have zh : (9223372036854775807 < 7 + (bs (b64L (sN (E0 ++ (⟨#[58]⟩ : ByteArray) ++ E2)))).size) = False := eq_false (by omega)
    generalize hVe : bs (b64L (sN (E0 ++ (⟨#[58]⟩ : ByteArray) ++ E2))) = VB at hV zh ⊢
    have HVe := Lib.hid hVe
    clear hVe
    refine hK.out _ _ ⟨(blk_cell (HJ.out.o _ (.tail _ (.head _))) 0).trans rfl, (blk_cell (HJ.out.o _ (.tail _ (.tail _ (.head _)))) 2).trans rfl⟩ (fun hHeld => ?_)
    clear hK K
    refine norm_ (a' := ?_) ?_ ?_
    rotate_left
    · show Act.put _ (some 85) _ = _
      simp only [Act.put, List.setIfInBounds_toArray, List.set_cons_zero, List.set_cons_succ, i64_w, i32_w]
      rfl
    refine pure_ (i := 10) (N := some 86) (v := ?_) (a' := ?_) #[true, true, true, true, true, true, true, true, true, true, true, false] rfl rfl (any_of HT_.out (by kernel_rfl)) (fun _ _ _ h => h) (Or.inl ⟨by rfl, ?_⟩) ?_ ?_
    rotate_left
    · intro w'
      go_simp
      with_reducible rfl
    rotate_left
    · simp only [Act.put, List.setIfInBounds_toArray, List.set_cons_zero, List.set_cons_succ, i64_w, i32_w]
      rfl
    refine pure_ (i := 11) (N := some 8) (v := ?_) (a' := ?_) #[true, true, true, true, true, true, true, true, true, true, true, true] rfl rfl (any_of HT_.out (by kernel_rfl)) (fun _ _ _ h => h) (Or.inl ⟨by rfl, ?_⟩) ?_ ?_
    rotate_left
    · intro w'
      go_simp
      with_reducible rfl
    rotate_left
    · simp only [Act.put, List.setIfInBounds_toArray, List.set_cons_zero, List.set_cons_succ, i64_w, i32_w]
      rfl
    refine done_ (done_of HT_.out (by kernel_rfl)) ?_
    try go_wp2_with (fail)
    go_meet
    case rel => exact ⟨by show Value.string (⟨#[98, 97, 115, 105, 99, 32, 32]⟩ ++ VB) = _; rw [← HVe.out]; rfl, HJ⟩
   case rest =>
    obtain ⟨rfl, HI9⟩ := hcut
    obtain ⟨c60, c61, c62, c63, c64, c65, f60, f61, f62, f63, f64, f65⟩ := cz6_ (HI9.out.o _ (.tail _ (.head _)))
    go_wp2_with (fail)
    obtain ⟨p9, hp9⟩ : ∃ p, p = wc.heap.size := ⟨_, rfl⟩
    have HIa := Lib.hid (HI9.out.alloc (.cells #[.string gId, .string y.f0] 68 (0, 0)))
    rw [← hp9] at HIa ⊢
    generalize hW : wc.alloc (.cells #[.string gId, .string y.f0] 68 (0, 0)) = wa
    rw [hW] at HIa
    clear hW hp9 HI9 c60 c61 c62 c63 c64 c65 f60 f61 f62 f63 f64 f65
    refine (KA1.out _ _ none cc 0 HIa.out.b HIa.out.c HCC.out (C_pair0 _) (Nat.le_refl _)).mono ?_
    rintro e wb ⟨v1, rfl, hX, hb⟩
    obtain ⟨A1, cp1, rfl⟩ := Kd.R_slice hX
    have HX1 := Lib.hid (Kd.R_reads' hX).2
    have HIb := Lib.hid ((HIa.out.step hb).also HX1.out.2)
    clear hX hb HIa
    go_upto_region 12 with (fail)
    obtain ⟨px1, hpx⟩ : ∃ p, p = wb.heap.size := ⟨_, rfl⟩
    have HIc := Lib.hid (HIb.out.alloc (.cells #[.string X1.f0, .string X1.f1, .int .i64 X1.f2, .bool X1.f3, .string X1.f4, .slice A1 X1.f5.length cp1] 40 (0, 0)))
    rw [← hpx] at HIc ⊢
    generalize hW : wb.alloc (.cells #[.string X1.f0, .string X1.f1, .int .i64 X1.f2, .bool X1.f3, .string X1.f4, .slice A1 X1.f5.length cp1] 40 (0, 0)) = wc1
    rw [hW] at HIc
    clear hW hpx HIb
    have q0 := (blk_cell (HIc.out.o _ (.tail _ (.head _))) 0).trans rfl
    have q1 := (blk_cell (HIc.out.o _ (.tail _ (.head _))) 1).trans rfl
    have s1 := (blk_cell (HIc.out.o _ (.tail _ (.tail _ (.tail _ (.head _))))) 1).trans rfl
    go_wp2_with (fail)
    have hC2 := C_pair2 wc1 gId y.f0 gSecret y.f1
    have HId := Lib.hid (HIc.out.step (below_alloc (Below.refl _ wc1) (.cells #[.string gId, .string y.f0, .string gSecret, .string y.f1] 68)))
    clear q0 q1 s1 HIc
    refine (KA2.out _ _ (some ⟨wc1.heap.size, 0, none⟩) cc 2 HId.out.b HId.out.c HCC.out hC2 (Nat.le_refl _)).mono ?_
    clear hC2
    rintro e we ⟨v2, rfl, hX, hb⟩
    obtain ⟨A2, cp2, rfl⟩ := Kd.R_slice hX
    have HX2 := Lib.hid (Kd.R_reads' hX).2
    have HIb := Lib.hid ((HId.out.step hb).also HX2.out.2)
    clear hX hb HId
    go_upto_region 13 with (fail)
    obtain ⟨px2, hpx⟩ : ∃ p, p = we.heap.size := ⟨_, rfl⟩
    have HIc := Lib.hid (HIb.out.alloc (.cells #[.string X2.f0, .string X2.f1, .int .i64 X2.f2, .bool X2.f3, .string X2.f4, .slice A2 X2.f5.length cp2] 40 (0, 0)))
    rw [← hpx] at HIc ⊢
    generalize hW : we.alloc (.cells #[.string X2.f0, .string X2.f1, .int .i64 X2.f2, .bool X2.f3, .string X2.f4, .slice A2 X2.f5.length cp2] 40 (0, 0)) = wc2
    rw [hW] at HIc
    clear hW hpx HIb
    have q0 := (blk_cell (HIc.out.o _ (.tail _ (.tail _ (.head _)))) 0).trans rfl
    have q1 := (blk_cell (HIc.out.o _ (.tail _ (.tail _ (.head _)))) 1).trans rfl
    go_wp2_with (fail)
    have hC2 := C_pair1 wc2 gId y.f0
    have HId := Lib.hid (HIc.out.step (below_alloc (Below.refl _ wc2) (.cells #[.string gId, .string y.f0] 68)))
    clear q0 q1 HIc
    refine (KA3.out _ _ (some ⟨wc2.heap.size, 0, none⟩) cc 1 HId.out.b HId.out.c HCC.out hC2 (Nat.le_refl _)).mono ?_
    clear hC2
    rintro e wf ⟨v3, rfl, hX, hb⟩
    obtain ⟨A3, cp3, rfl⟩ := Kd.R_slice hX
    have HIb := Lib.hid (HId.out.step hb)
    clear hX hb HId
    go_upto_region 14 with (fail)
    obtain ⟨px3, hpx⟩ : ∃ p, p = wf.heap.size := ⟨_, rfl⟩
    have HIc := Lib.hid (HIb.out.alloc (.cells #[.string X3.f0, .string X3.f1, .int .i64 X3.f2, .bool X3.f3, .string X3.f4, .slice A3 X3.f5.length cp3] 40 (0, 0)))
    rw [← hpx] at HIc ⊢
    generalize hW : wf.alloc (.cells #[.string X3.f0, .string X3.f1, .int .i64 X3.f2, .bool X3.f3, .string X3.f4, .slice A3 X3.f5.length cp3] 40 (0, 0)) = wc3
    rw [hW] at HIc
    clear hW hpx HIb
    have q0 := (blk_cell (HIc.out.o _ (.tail _ (.tail _ (.tail _ (.head _))))) 0).trans rfl
    have q1 := (blk_cell (HIc.out.o _ (.tail _ (.tail _ (.tail _ (.head _))))) 1).trans rfl
    have s1 := (blk_cell (HIc.out.o _ (.tail _ (.tail _ (.tail _ (.tail _ (.tail _ (.tail _ (.head _)))))))) 2).trans rfl
    go_wp2_with (fail)
    have hC2 := C_pair2 wc3 gSecret ts gId y.f0
    have HId := Lib.hid (HIc.out.step (below_alloc (Below.refl _ wc3) (.cells #[.string gSecret, .string ts, .string gId, .string y.f0] 68)))
    clear q0 q1 s1 HIc
    refine (KA4.out _ _ (some ⟨wc3.heap.size, 0, none⟩) cc 2 HId.out.b HId.out.c HCC.out hC2 (Nat.le_refl _)).mono ?_
    clear hC2
    rintro e wg ⟨v4, rfl, hX, hb⟩
    obtain ⟨A4', cp4, rfl⟩ := Kd.R_slice hX
    have HIb := Lib.hid (HId.out.step hb)
    clear hX hb HId
    go_upto_region 15 with (fail)
    obtain ⟨px4, hpx⟩ : ∃ p, p = wg.heap.size := ⟨_, rfl⟩
    have HIc := Lib.hid (HIb.out.alloc (.cells #[.string X4.f0, .string X4.f1, .int .i64 X4.f2, .bool X4.f3, .string X4.f4, .slice A4' X4.f5.length cp4] 40 (0, 0)))
    rw [← hpx] at HIc ⊢
    generalize hW : wg.alloc (.cells #[.string X4.f0, .string X4.f1, .int .i64 X4.f2, .bool X4.f3, .string X4.f4, .slice A4' X4.f5.length cp4] 40 (0, 0)) = wc4
    rw [hW] at HIc
    clear hW hpx HIb
    clear KA1 KA2 KA3 KA4 KE0 KE1 KE2
    have HIr := HIc
    clear HIc
    generalize wordB E0 E1 = WB at *
    generalize badB E0 E2 = BB at *
    have s1 := (blk_cell (HIr.out.o _ (.tail _ (.tail _ (.tail _ (.tail _ (.tail _ (.tail _ (.head _)))))))) 1).trans rfl
    rcases KFin.out with hbig | ⟨hs1, hs2, hcase⟩
    · by_cases hw1 : 1024 < WB.size
      · go_wp2_with (fail)
        go_ret
        exact ⟨rfl, HIr.out.b⟩
      · have hw2 : 1024 < BB.size := by omega
        go_wp2_with (fail)
        go_ret
        exact ⟨rfl, HIr.out.b⟩
    have hw1 : ¬ 1024 < WB.size := by omega
    have hw2 : ¬ 1024 < BB.size := by omega
    clear hs1 hs2 KFin
    rcases hcase with ⟨hy1, rfl, hX2, rfl, rfl, rfl, hts⟩ | ⟨hne, hX1, rfl, rfl, hX2, rfl, rfl, hts⟩
    · obtain rfl := hX2.symm
      rw [hy1] at s1
      go_upto_region 18 with (fail)
      clear s1
      rcases hts with ⟨rfl, rfl⟩ | ⟨hne, rfl⟩
      · skip
        have HJ := Lib.hid (HIr.out.step (below_drew1 (Below.refl _ _)))
        refine start_ (n := 32) (S := fun w' => w'.cell? ⟨px2, 0, none⟩ = some (.string y.f0) ∧ w'.cell? ⟨px2, 1, none⟩ = some (.string y.f1) ∧ w'.cell? ⟨px2, 2, none⟩ = some (.int .i64 y.f2) ∧ w'.cell? ⟨px2, 3, none⟩ = some (.bool y.f3) ∧ w'.cell? ⟨px2, 4, none⟩ = some (.string y.f4) ∧ w'.cell? ⟨px2, 5, none⟩ = some (.slice A2 y.f5.length cp2) ∧ w'.cell? ⟨yb, 0, none⟩ = some (.string y.f0) ∧ w'.cell? ⟨yb, 1, none⟩ = some (.string y.f1) ∧ w'.cell? ⟨yb, 2, none⟩ = some (.int .i64 y.f2) ∧ w'.cell? ⟨yb, 3, none⟩ = some (.bool y.f3) ∧ w'.cell? ⟨yb, 4, none⟩ = some (.string y.f4) ∧ w'.cell? ⟨yb, 5, none⟩ = some (.slice Ay y.f5.length cy) ∧ w'.cell? ⟨b, 2, none⟩ = some (.string (⟨#[]⟩ : ByteArray))) (ds := []) #[false, false, false, false, false, false, false, false, false, false, false, false, false, false, false, false, false, false, false, false, false, false, false, false, false, false, false, false, false, false, false, false] (by kernel_rfl) rfl rfl ⟨(cz6_ (HJ.out.o _ (.tail _ (.tail _ (.head _))))).1, (cz6_ (HJ.out.o _ (.tail _ (.tail _ (.head _))))).2.1, (cz6_ (HJ.out.o _ (.tail _ (.tail _ (.head _))))).2.2.1, (cz6_ (HJ.out.o _ (.tail _ (.tail _ (.head _))))).2.2.2.1, (cz6_ (HJ.out.o _ (.tail _ (.tail _ (.head _))))).2.2.2.2.1, (cz6_ (HJ.out.o _ (.tail _ (.tail _ (.head _))))).2.2.2.2.2.1, (cz6_ (HJ.out.o _ (.tail _ (.tail _ (.tail _ (.tail _ (.tail _ (.head _)))))))).1, (cz6_ (HJ.out.o _ (.tail _ (.tail _ (.tail _ (.tail _ (.tail _ (.head _)))))))).2.1, (cz6_ (HJ.out.o _ (.tail _ (.tail _ (.tail _ (.tail _ (.tail _ (.head _)))))))).2.2.1, (cz6_ (HJ.out.o _ (.tail _ (.tail _ (.tail _ (.tail _ (.tail _ (.head _)))))))).2.2.2.1, (cz6_ (HJ.out.o _ (.tail _ (.tail _ (.tail _ (.tail _ (.tail _ (.head _)))))))).2.2.2.2.1, (cz6_ (HJ.out.o _ (.tail _ (.tail _ (.tail _ (.tail _ (.tail _ (.head _)))))))).2.2.2.2.2.1, (blk_cell (HJ.out.o _ (.tail _ (.tail _ (.tail _ (.tail _ (.tail _ (.tail _ (.tail _ (.head _))))))))) 2).trans rfl⟩ (fun hHeld => ?_); refine with_tabW welT.tab18 welT.bits18 (fun HT_ HW_ => ?_)
        generalize World.drew _ = w5 at HJ hHeld ⊢
        refine pure_ (i := 0) (N := some 139) (v := ?_) (a' := ?_) #[true, false, false, false, false, false, false, false, false, false, false, false, false, false, false, false, false, false, false, false, false, false, false, false, false, false, false, false, false, false, false, false] rfl rfl (any_of HT_.out (by kernel_rfl)) (fun _ _ _ h => h) (Or.inl ⟨by rfl, ?_⟩) ?_ ?_
        rotate_left
        · intro w'
          go_simp
          with_reducible rfl
        rotate_left
        · simp only [Act.put, List.setIfInBounds_toArray, List.set_cons_zero, List.set_cons_succ, i64_w, i32_w]
          rfl
        refine one_ (i := 1) (N := some 140) #[true, true, false, false, false, false, false, false, false, false, false, false, false, false, false, false, false, false, false, false, false, false, false, false, false, false, false, false, false, false, false, false] rfl rfl (one_of HT_.out (by kernel_rfl)) (by decide) (fun K hK => ?_)
        refine goes_ Tryz.func19 (by kernel_rfl) rfl #[.int .i64 112] (by rfl) rfl rfl (by first | rfl | ((try simp only [List.map_toArray, List.map_cons, List.map_nil]); first | done | rfl | (simp only [List.length_drop, List.length_take]; rfl))) ?_
        with_reducible refine (live_num 112 _).mono ?_
        rintro e wq ⟨rfl, ⟨nd, rfl⟩⟩
        refine ⟨_, rfl, ?_⟩
        have HJ' := Lib.hid (HJ.out.drewN nd)
        clear HJ
        have HJ := HJ'
        clear HJ'
        refine hK.out _ _ ⟨(cz6_ (HJ.out.o _ (.tail _ (.tail _ (.head _))))).1, (cz6_ (HJ.out.o _ (.tail _ (.tail _ (.head _))))).2.1, (cz6_ (HJ.out.o _ (.tail _ (.tail _ (.head _))))).2.2.1, (cz6_ (HJ.out.o _ (.tail _ (.tail _ (.head _))))).2.2.2.1, (cz6_ (HJ.out.o _ (.tail _ (.tail _ (.head _))))).2.2.2.2.1, (cz6_ (HJ.out.o _ (.tail _ (.tail _ (.head _))))).2.2.2.2.2.1, (cz6_ (HJ.out.o _ (.tail _ (.tail _ (.tail _ (.tail _ (.tail _ (.head _)))))))).1, (cz6_ (HJ.out.o _ (.tail _ (.tail _ (.tail _ (.tail _ (.tail _ (.head _)))))))).2.1, (cz6_ (HJ.out.o _ (.tail _ (.tail _ (.tail _ (.tail _ (.tail _ (.head _)))))))).2.2.1, (cz6_ (HJ.out.o _ (.tail _ (.tail _ (.tail _ (.tail _ (.tail _ (.head _)))))))).2.2.2.1, (cz6_ (HJ.out.o _ (.tail _ (.tail _ (.tail _ (.tail _ (.tail _ (.head _)))))))).2.2.2.2.1, (cz6_ (HJ.out.o _ (.tail _ (.tail _ (.tail _ (.tail _ (.tail _ (.head _)))))))).2.2.2.2.2.1, (blk_cell (HJ.out.o _ (.tail _ (.tail _ (.tail _ (.tail _ (.tail _ (.tail _ (.tail _ (.head _))))))))) 2).trans rfl⟩ (fun hHeld => ?_)
        clear hK K
        refine norm_ (a' := ?_) ?_ ?_
        rotate_left
        · show Act.put _ (some 140) _ = _
          simp only [Act.put, List.setIfInBounds_toArray, List.set_cons_zero, List.set_cons_succ, i64_w, i32_w]
          rfl
        refine pure_ (i := 2) (N := some 141) (v := ?_) (a' := ?_) #[true, true, true, false, false, false, false, false, false, false, false, false, false, false, false, false, false, false, false, false, false, false, false, false, false, false, false, false, false, false, false, false] rfl rfl (any_of HT_.out (by kernel_rfl)) (fun _ _ _ h => h) (Or.inl ⟨by rfl, ?_⟩) ?_ ?_
        rotate_left
        · intro w'
          go_simp
          with_reducible rfl
        rotate_left
        · simp only [Act.put, List.setIfInBounds_toArray, List.set_cons_zero, List.set_cons_succ, i64_w, i32_w]
          rfl
        refine pure_ (i := 3) (N := some 142) (v := ?_) (a' := ?_) #[true, true, true, true, false, false, false, false, false, false, false, false, false, false, false, false, false, false, false, false, false, false, false, false, false, false, false, false, false, false, false, false] rfl rfl (any_of HT_.out (by kernel_rfl)) (fun _ _ _ h => h) (Or.inl ⟨by rfl, ?_⟩) ?_ ?_
        rotate_left
        · intro w'
          go_simp
          with_reducible rfl
        rotate_left
        · simp only [Act.put, List.setIfInBounds_toArray, List.set_cons_zero, List.set_cons_succ, i64_w, i32_w]
          rfl
        refine pure_ (i := 4) (N := some 143) (v := ?_) (a' := ?_) #[true, true, true, true, true, false, false, false, false, false, false, false, false, false, false, false, false, false, false, false, false, false, false, false, false, false, false, false, false, false, false, false] rfl rfl (any_of HT_.out (by kernel_rfl)) (fun _ _ _ h => h) (Or.inl ⟨by rfl, ?_⟩) ?_ ?_
        rotate_left
        · intro w'
          go_simp
          with_reducible rfl
        rotate_left
        · simp only [Act.put, List.setIfInBounds_toArray, List.set_cons_zero, List.set_cons_succ, i64_w, i32_w]
          rfl
        refine one_ (i := 5) (N := some 144) #[true, true, true, true, true, true, false, false, false, false, false, false, false, false, false, false, false, false, false, false, false, false, false, false, false, false, false, false, false, false, false, false] rfl rfl (one_of HT_.out (by kernel_rfl)) (by decide) (fun K hK => ?_)
        refine goes_ Tryz.func19 (by kernel_rfl) rfl #[.int .i64 0] (by rfl) rfl rfl (by first | rfl | ((try simp only [List.map_toArray, List.map_cons, List.map_nil]); first | done | rfl | (simp only [List.length_drop, List.length_take]; rfl))) ?_
        with_reducible refine (live_num 0 _).mono ?_
        rintro e wq ⟨rfl, ⟨nd, rfl⟩⟩
        refine ⟨_, rfl, ?_⟩
        have HJ' := Lib.hid (HJ.out.drewN nd)
        clear HJ
        have HJ := HJ'
        clear HJ'
        refine hK.out _ _ ⟨(cz6_ (HJ.out.o _ (.tail _ (.tail _ (.head _))))).1, (cz6_ (HJ.out.o _ (.tail _ (.tail _ (.head _))))).2.1, (cz6_ (HJ.out.o _ (.tail _ (.tail _ (.head _))))).2.2.1, (cz6_ (HJ.out.o _ (.tail _ (.tail _ (.head _))))).2.2.2.1, (cz6_ (HJ.out.o _ (.tail _ (.tail _ (.head _))))).2.2.2.2.1, (cz6_ (HJ.out.o _ (.tail _ (.tail _ (.head _))))).2.2.2.2.2.1, (cz6_ (HJ.out.o _ (.tail _ (.tail _ (.tail _ (.tail _ (.tail _ (.head _)))))))).1, (cz6_ (HJ.out.o _ (.tail _ (.tail _ (.tail _ (.tail _ (.tail _ (.head _)))))))).2.1, (cz6_ (HJ.out.o _ (.tail _ (.tail _ (.tail _ (.tail _ (.tail _ (.head _)))))))).2.2.1, (cz6_ (HJ.out.o _ (.tail _ (.tail _ (.tail _ (.tail _ (.tail _ (.head _)))))))).2.2.2.1, (cz6_ (HJ.out.o _ (.tail _ (.tail _ (.tail _ (.tail _ (.tail _ (.head _)))))))).2.2.2.2.1, (cz6_ (HJ.out.o _ (.tail _ (.tail _ (.tail _ (.tail _ (.tail _ (.head _)))))))).2.2.2.2.2.1, (blk_cell (HJ.out.o _ (.tail _ (.tail _ (.tail _ (.tail _ (.tail _ (.tail _ (.tail _ (.head _))))))))) 2).trans rfl⟩ (fun hHeld => ?_)
        clear hK K
        refine norm_ (a' := ?_) ?_ ?_
        rotate_left
        · show Act.put _ (some 144) _ = _
          simp only [Act.put, List.setIfInBounds_toArray, List.set_cons_zero, List.set_cons_succ, i64_w, i32_w]
          rfl
        refine pure_ (i := 6) (N := some 145) (v := ?_) (a' := ?_) #[true, true, true, true, true, true, true, false, false, false, false, false, false, false, false, false, false, false, false, false, false, false, false, false, false, false, false, false, false, false, false, false] rfl rfl (any_of HT_.out (by kernel_rfl)) (fun _ _ _ h => h) (Or.inl ⟨by rfl, ?_⟩) ?_ ?_
        rotate_left
        · intro w'
          go_simp
          with_reducible rfl
        rotate_left
        · simp only [Act.put, List.setIfInBounds_toArray, List.set_cons_zero, List.set_cons_succ, i64_w, i32_w]
          rfl
        refine pure_ (i := 7) (N := some 146) (v := ?_) (a' := ?_) #[true, true, true, true, true, true, true, true, false, false, false, false, false, false, false, false, false, false, false, false, false, false, false, false, false, false, false, false, false, false, false, false] rfl rfl (any_of HT_.out (by kernel_rfl)) (fun _ _ _ h => h) (Or.inl ⟨by rfl, ?_⟩) ?_ ?_
        rotate_left
        · intro w'
          go_simp
          with_reducible rfl
        rotate_left
        · simp only [Act.put, List.setIfInBounds_toArray, List.set_cons_zero, List.set_cons_succ, i64_w, i32_w]
          rfl
        refine pure_ (i := 8) (N := some 147) (v := ?_) (a' := ?_) #[true, true, true, true, true, true, true, true, true, false, false, false, false, false, false, false, false, false, false, false, false, false, false, false, false, false, false, false, false, false, false, false] rfl rfl (any_of HT_.out (by kernel_rfl)) (fun _ _ _ h => h) (Or.inl ⟨by rfl, ?_⟩) ?_ ?_
        rotate_left
        · intro w'
          go_simp
          with_reducible rfl
        rotate_left
        · simp only [Act.put, List.setIfInBounds_toArray, List.set_cons_zero, List.set_cons_succ, i64_w, i32_w]
          rfl
        refine pure_ (i := 9) (N := some 148) (v := ?_) (a' := ?_) #[true, true, true, true, true, true, true, true, true, true, false, false, false, false, false, false, false, false, false, false, false, false, false, false, false, false, false, false, false, false, false, false] rfl rfl (any_of HT_.out (by kernel_rfl)) (fun _ _ _ h => h) (Or.inl ⟨by rfl, ?_⟩) ?_ ?_
        rotate_left
        · intro w'
          go_simp
          with_reducible rfl
        rotate_left
        · simp only [Act.put, List.setIfInBounds_toArray, List.set_cons_zero, List.set_cons_succ, i64_w, i32_w]
          rfl
        refine pure_ (i := 10) (N := some 149) (v := ?_) (a' := ?_) #[true, true, true, true, true, true, true, true, true, true, true, false, false, false, false, false, false, false, false, false, false, false, false, false, false, false, false, false, false, false, false, false] rfl rfl (any_of HT_.out (by kernel_rfl)) (fun _ _ _ h => h) (Or.inl ⟨by rfl, ?_⟩) ?_ ?_
        rotate_left
        · intro w'
          go_simp
          with_reducible rfl
        rotate_left
        · simp only [Act.put, List.setIfInBounds_toArray, List.set_cons_zero, List.set_cons_succ, i64_w, i32_w]
          rfl
        refine pure_ (i := 11) (N := some 150) (v := ?_) (a' := ?_) #[true, true, true, true, true, true, true, true, true, true, true, true, false, false, false, false, false, false, false, false, false, false, false, false, false, false, false, false, false, false, false, false] rfl rfl (any_of HT_.out (by kernel_rfl)) (fun _ _ _ h => h) (Or.inl ⟨by rfl, ?_⟩) ?_ ?_
        rotate_left
        · intro w'
          go_simp
          with_reducible rfl
        rotate_left
        · simp only [Act.put, List.setIfInBounds_toArray, List.set_cons_zero, List.set_cons_succ, i64_w, i32_w]
          rfl
        refine pure_ (i := 12) (N := some 151) (v := ?_) (a' := ?_) #[true, true, true, true, true, true, true, true, true, true, true, true, true, false, false, false, false, false, false, false, false, false, false, false, false, false, false, false, false, false, false, false] rfl rfl (any_of HT_.out (by kernel_rfl)) (fun _ _ _ h => h) (Or.inl ⟨by rfl, ?_⟩) ?_ ?_
        rotate_left
        · intro w'
          go_simp
          with_reducible rfl
        rotate_left
        · simp only [Act.put, List.setIfInBounds_toArray, List.set_cons_zero, List.set_cons_succ, i64_w, i32_w]
          rfl
        refine take_ (i := 13) (N := some 152) (v := ?_) (a' := ?_) #[true, true, true, true, true, true, true, true, true, true, true, true, true, true, false, false, false, false, false, false, false, false, false, false, false, false, false, false, false, false, false, false] rfl rfl (take_ofW HT_.out HW_.out (by kernel_rfl)) (fun _ _ _ h => h) (Or.inl ⟨by rfl, ?_⟩) hHeld ?_ ?_
        rotate_left
        · rintro w' ⟨s0, s1, s2, s3, s4, s5, s6, s7, s8, s9, s10, s11, s12⟩
          go_simp
          with_reducible rfl
        rotate_left
        · simp only [Act.put, List.setIfInBounds_toArray, List.set_cons_zero, List.set_cons_succ, i64_w, i32_w]
          rfl
        refine take_ (i := 14) (N := some 153) (v := ?_) (a' := ?_) #[true, true, true, true, true, true, true, true, true, true, true, true, true, true, true, false, false, false, false, false, false, false, false, false, false, false, false, false, false, false, false, false] rfl rfl (take_ofW HT_.out HW_.out (by kernel_rfl)) (fun _ _ _ h => h) (Or.inl ⟨by rfl, ?_⟩) hHeld ?_ ?_
        rotate_left
        · rintro w' ⟨s0, s1, s2, s3, s4, s5, s6, s7, s8, s9, s10, s11, s12⟩
          go_simp
          with_reducible rfl
        rotate_left
        · simp only [Act.put, List.setIfInBounds_toArray, List.set_cons_zero, List.set_cons_succ, i64_w, i32_w]
          rfl
        refine one_ (i := 15) (N := some 154) #[true, true, true, true, true, true, true, true, true, true, true, true, true, true, true, true, false, false, false, false, false, false, false, false, false, false, false, false, false, false, false, false] rfl rfl (one_of HT_.out (by kernel_rfl)) (by decide) (fun K hK => ?_)
        refine goes_ Tryz.func31 (by kernel_rfl) rfl #[.agg #[.string y.f0, .string y.f1, .int .i64 y.f2, .bool y.f3, .string y.f4, .slice A2 y.f5.length cp2], .agg #[.string y.f0, .string y.f1, .int .i64 y.f2, .bool y.f3, .string y.f4, .slice Ay y.f5.length cy]] (by rfl) rfl rfl (by first | rfl | (go_simp; done) | ((try simp only [List.map_toArray, List.map_cons, List.map_nil]); first | done | rfl | (simp only [List.length_drop, List.length_take]; rfl))) ?_
        have hsA := HJ.out.s _ (.head _)
        have hsB := HJ.out.s _ (.tail _ (.tail _ (.head _)))
        refine (wicketlaw11_same.calls k y.f0 y.f1 y.f2 y.f3 y.f4 A2 cp2 y.f5 y.f0 y.f1 y.f2 y.f3 y.f4 Ay cy y.f5 true _ hsA HX2.out.1 hsB HLY.out KS.out).mono ?_
        clear hsA hsB
        rintro e wq ⟨rfl, hb⟩
        refine ⟨_, rfl, ?_⟩
        have HJ' := Lib.hid (HJ.out.step hb)
        clear HJ
        have HJ := HJ'
        clear HJ'
        clear hb
        refine hK.out _ _ ⟨(cz6_ (HJ.out.o _ (.tail _ (.tail _ (.head _))))).1, (cz6_ (HJ.out.o _ (.tail _ (.tail _ (.head _))))).2.1, (cz6_ (HJ.out.o _ (.tail _ (.tail _ (.head _))))).2.2.1, (cz6_ (HJ.out.o _ (.tail _ (.tail _ (.head _))))).2.2.2.1, (cz6_ (HJ.out.o _ (.tail _ (.tail _ (.head _))))).2.2.2.2.1, (cz6_ (HJ.out.o _ (.tail _ (.tail _ (.head _))))).2.2.2.2.2.1, (cz6_ (HJ.out.o _ (.tail _ (.tail _ (.tail _ (.tail _ (.tail _ (.head _)))))))).1, (cz6_ (HJ.out.o _ (.tail _ (.tail _ (.tail _ (.tail _ (.tail _ (.head _)))))))).2.1, (cz6_ (HJ.out.o _ (.tail _ (.tail _ (.tail _ (.tail _ (.tail _ (.head _)))))))).2.2.1, (cz6_ (HJ.out.o _ (.tail _ (.tail _ (.tail _ (.tail _ (.tail _ (.head _)))))))).2.2.2.1, (cz6_ (HJ.out.o _ (.tail _ (.tail _ (.tail _ (.tail _ (.tail _ (.head _)))))))).2.2.2.2.1, (cz6_ (HJ.out.o _ (.tail _ (.tail _ (.tail _ (.tail _ (.tail _ (.head _)))))))).2.2.2.2.2.1, (blk_cell (HJ.out.o _ (.tail _ (.tail _ (.tail _ (.tail _ (.tail _ (.tail _ (.tail _ (.head _))))))))) 2).trans rfl⟩ (fun hHeld => ?_)
        clear hK K
        refine norm_ (a' := ?_) ?_ ?_
        rotate_left
        · show Act.put _ (some 154) _ = _
          simp only [Act.put, List.setIfInBounds_toArray, List.set_cons_zero, List.set_cons_succ, i64_w, i32_w]
          rfl
        refine pure_ (i := 16) (N := some 155) (v := ?_) (a' := ?_) #[true, true, true, true, true, true, true, true, true, true, true, true, true, true, true, true, true, false, false, false, false, false, false, false, false, false, false, false, false, false, false, false] rfl rfl (any_of HT_.out (by kernel_rfl)) (fun _ _ _ h => h) (Or.inl ⟨by rfl, ?_⟩) ?_ ?_
        rotate_left
        · intro w'
          go_simp
          with_reducible rfl
        rotate_left
        · simp only [Act.put, List.setIfInBounds_toArray, List.set_cons_zero, List.set_cons_succ, i64_w, i32_w]
          rfl
        refine pure_ (i := 17) (N := some 156) (v := ?_) (a' := ?_) #[true, true, true, true, true, true, true, true, true, true, true, true, true, true, true, true, true, true, false, false, false, false, false, false, false, false, false, false, false, false, false, false] rfl rfl (any_of HT_.out (by kernel_rfl)) (fun _ _ _ h => h) (Or.inl ⟨by rfl, ?_⟩) ?_ ?_
        rotate_left
        · intro w'
          go_simp
          with_reducible rfl
        rotate_left
        · simp only [Act.put, List.setIfInBounds_toArray, List.set_cons_zero, List.set_cons_succ, i64_w, i32_w]
          rfl
        refine pure_ (i := 18) (N := some 157) (v := ?_) (a' := ?_) #[true, true, true, true, true, true, true, true, true, true, true, true, true, true, true, true, true, true, true, false, false, false, false, false, false, false, false, false, false, false, false, false] rfl rfl (any_of HT_.out (by kernel_rfl)) (fun _ _ _ h => h) (Or.inl ⟨by rfl, ?_⟩) ?_ ?_
        rotate_left
        · intro w'
          go_simp
          with_reducible rfl
        rotate_left
        · simp only [Act.put, List.setIfInBounds_toArray, List.set_cons_zero, List.set_cons_succ, i64_w, i32_w]
          rfl
        refine one_ (i := 19) (N := some 158) #[true, true, true, true, true, true, true, true, true, true, true, true, true, true, true, true, true, true, true, true, false, false, false, false, false, false, false, false, false, false, false, false] rfl rfl (one_of HT_.out (by kernel_rfl)) (by decide) (fun K hK => ?_)
        refine goes_ Tryz.func19 (by kernel_rfl) rfl #[.int .i64 112] (by rfl) rfl rfl (by first | rfl | ((try simp only [List.map_toArray, List.map_cons, List.map_nil]); first | done | rfl | (simp only [List.length_drop, List.length_take]; rfl))) ?_
        with_reducible refine (live_num 112 _).mono ?_
        rintro e wq ⟨rfl, ⟨nd, rfl⟩⟩
        refine ⟨_, rfl, ?_⟩
        have HJ' := Lib.hid (HJ.out.drewN nd)
        clear HJ
        have HJ := HJ'
        clear HJ'
        refine hK.out _ _ ⟨(cz6_ (HJ.out.o _ (.tail _ (.tail _ (.head _))))).1, (cz6_ (HJ.out.o _ (.tail _ (.tail _ (.head _))))).2.1, (cz6_ (HJ.out.o _ (.tail _ (.tail _ (.head _))))).2.2.1, (cz6_ (HJ.out.o _ (.tail _ (.tail _ (.head _))))).2.2.2.1, (cz6_ (HJ.out.o _ (.tail _ (.tail _ (.head _))))).2.2.2.2.1, (cz6_ (HJ.out.o _ (.tail _ (.tail _ (.head _))))).2.2.2.2.2.1, (cz6_ (HJ.out.o _ (.tail _ (.tail _ (.tail _ (.tail _ (.tail _ (.head _)))))))).1, (cz6_ (HJ.out.o _ (.tail _ (.tail _ (.tail _ (.tail _ (.tail _ (.head _)))))))).2.1, (cz6_ (HJ.out.o _ (.tail _ (.tail _ (.tail _ (.tail _ (.tail _ (.head _)))))))).2.2.1, (cz6_ (HJ.out.o _ (.tail _ (.tail _ (.tail _ (.tail _ (.tail _ (.head _)))))))).2.2.2.1, (cz6_ (HJ.out.o _ (.tail _ (.tail _ (.tail _ (.tail _ (.tail _ (.head _)))))))).2.2.2.2.1, (cz6_ (HJ.out.o _ (.tail _ (.tail _ (.tail _ (.tail _ (.tail _ (.head _)))))))).2.2.2.2.2.1, (blk_cell (HJ.out.o _ (.tail _ (.tail _ (.tail _ (.tail _ (.tail _ (.tail _ (.tail _ (.head _))))))))) 2).trans rfl⟩ (fun hHeld => ?_)
        clear hK K
        refine norm_ (a' := ?_) ?_ ?_
        rotate_left
        · show Act.put _ (some 158) _ = _
          simp only [Act.put, List.setIfInBounds_toArray, List.set_cons_zero, List.set_cons_succ, i64_w, i32_w]
          rfl
        refine pure_ (i := 20) (N := some 159) (v := ?_) (a' := ?_) #[true, true, true, true, true, true, true, true, true, true, true, true, true, true, true, true, true, true, true, true, true, false, false, false, false, false, false, false, false, false, false, false] rfl rfl (any_of HT_.out (by kernel_rfl)) (fun _ _ _ h => h) (Or.inl ⟨by rfl, ?_⟩) ?_ ?_
        rotate_left
        · intro w'
          go_simp
          with_reducible rfl
        rotate_left
        · simp only [Act.put, List.setIfInBounds_toArray, List.set_cons_zero, List.set_cons_succ, i64_w, i32_w]
          rfl
        refine pure_ (i := 21) (N := some 160) (v := ?_) (a' := ?_) #[true, true, true, true, true, true, true, true, true, true, true, true, true, true, true, true, true, true, true, true, true, true, false, false, false, false, false, false, false, false, false, false] rfl rfl (any_of HT_.out (by kernel_rfl)) (fun _ _ _ h => h) (Or.inl ⟨by rfl, ?_⟩) ?_ ?_
        rotate_left
        · intro w'
          go_simp
          with_reducible rfl
        rotate_left
        · simp only [Act.put, List.setIfInBounds_toArray, List.set_cons_zero, List.set_cons_succ, i64_w, i32_w]
          rfl
        refine pure_ (i := 22) (N := some 161) (v := ?_) (a' := ?_) #[true, true, true, true, true, true, true, true, true, true, true, true, true, true, true, true, true, true, true, true, true, true, true, false, false, false, false, false, false, false, false, false] rfl rfl (any_of HT_.out (by kernel_rfl)) (fun _ _ _ h => h) (Or.inl ⟨by rfl, ?_⟩) ?_ ?_
        rotate_left
        · intro w'
          go_simp
          with_reducible rfl
        rotate_left
        · simp only [Act.put, List.setIfInBounds_toArray, List.set_cons_zero, List.set_cons_succ, i64_w, i32_w]
          rfl
        refine pure_ (i := 23) (N := some 162) (v := ?_) (a' := ?_) #[true, true, true, true, true, true, true, true, true, true, true, true, true, true, true, true, true, true, true, true, true, true, true, true, false, false, false, false, false, false, false, false] rfl rfl (any_of HT_.out (by kernel_rfl)) (fun _ _ _ h => h) (Or.inl ⟨by rfl, ?_⟩) ?_ ?_
        rotate_left
        · intro w'
          go_simp
          with_reducible rfl
        rotate_left
        · simp only [Act.put, List.setIfInBounds_toArray, List.set_cons_zero, List.set_cons_succ, i64_w, i32_w]
          rfl
        refine pure_ (i := 26) (N := some 165) (v := ?_) (a' := ?_) #[true, true, true, true, true, true, true, true, true, true, true, true, true, true, true, true, true, true, true, true, true, true, true, true, false, false, true, false, false, false, false, false] rfl rfl (any_of HT_.out (by kernel_rfl)) (fun _ _ _ h => h) (Or.inl ⟨by rfl, ?_⟩) ?_ ?_
        rotate_left
        · intro w'
          go_simp
          with_reducible rfl
        rotate_left
        · simp only [Act.put, List.setIfInBounds_toArray, List.set_cons_zero, List.set_cons_succ, i64_w, i32_w]
          rfl
        refine take_ (i := 27) (N := some 166) (v := ?_) (a' := ?_) #[true, true, true, true, true, true, true, true, true, true, true, true, true, true, true, true, true, true, true, true, true, true, true, true, false, false, true, true, false, false, false, false] rfl rfl (take_ofW HT_.out HW_.out (by kernel_rfl)) (fun _ _ _ h => h) (Or.inl ⟨by rfl, ?_⟩) hHeld ?_ ?_
        rotate_left
        · rintro w' ⟨s0, s1, s2, s3, s4, s5, s6, s7, s8, s9, s10, s11, s12⟩
          go_simp
          with_reducible rfl
        rotate_left
        · simp only [Act.put, List.setIfInBounds_toArray, List.set_cons_zero, List.set_cons_succ, i64_w, i32_w]
          rfl
        refine pure_ (i := 28) (N := some 167) (v := ?_) (a' := ?_) #[true, true, true, true, true, true, true, true, true, true, true, true, true, true, true, true, true, true, true, true, true, true, true, true, false, false, true, true, true, false, false, false] rfl rfl (any_of HT_.out (by kernel_rfl)) (fun _ _ _ h => h) (Or.inl ⟨by rfl, ?_⟩) ?_ ?_
        rotate_left
        · intro w'
          go_simp
          with_reducible rfl
        rotate_left
        · simp only [Act.put, List.setIfInBounds_toArray, List.set_cons_zero, List.set_cons_succ, i64_w, i32_w]
          rfl
        refine one_ (i := 24) (N := some 163) #[true, true, true, true, true, true, true, true, true, true, true, true, true, true, true, true, true, true, true, true, true, true, true, true, true, false, true, true, true, false, false, false] rfl rfl (one_of HT_.out (by kernel_rfl)) (by decide) (fun K hK => ?_)
        refine goes_ Tryz.func19 (by kernel_rfl) rfl #[.int .i64 0] (by rfl) rfl rfl (by first | rfl | ((try simp only [List.map_toArray, List.map_cons, List.map_nil]); first | done | rfl | (simp only [List.length_drop, List.length_take]; rfl))) ?_
        with_reducible refine (live_num 0 _).mono ?_
        rintro e wq ⟨rfl, ⟨nd, rfl⟩⟩
        refine ⟨_, rfl, ?_⟩
        have HJ' := Lib.hid (HJ.out.drewN nd)
        clear HJ
        have HJ := HJ'
        clear HJ'
        refine hK.out _ _ ⟨(cz6_ (HJ.out.o _ (.tail _ (.tail _ (.head _))))).1, (cz6_ (HJ.out.o _ (.tail _ (.tail _ (.head _))))).2.1, (cz6_ (HJ.out.o _ (.tail _ (.tail _ (.head _))))).2.2.1, (cz6_ (HJ.out.o _ (.tail _ (.tail _ (.head _))))).2.2.2.1, (cz6_ (HJ.out.o _ (.tail _ (.tail _ (.head _))))).2.2.2.2.1, (cz6_ (HJ.out.o _ (.tail _ (.tail _ (.head _))))).2.2.2.2.2.1, (cz6_ (HJ.out.o _ (.tail _ (.tail _ (.tail _ (.tail _ (.tail _ (.head _)))))))).1, (cz6_ (HJ.out.o _ (.tail _ (.tail _ (.tail _ (.tail _ (.tail _ (.head _)))))))).2.1, (cz6_ (HJ.out.o _ (.tail _ (.tail _ (.tail _ (.tail _ (.tail _ (.head _)))))))).2.2.1, (cz6_ (HJ.out.o _ (.tail _ (.tail _ (.tail _ (.tail _ (.tail _ (.head _)))))))).2.2.2.1, (cz6_ (HJ.out.o _ (.tail _ (.tail _ (.tail _ (.tail _ (.tail _ (.head _)))))))).2.2.2.2.1, (cz6_ (HJ.out.o _ (.tail _ (.tail _ (.tail _ (.tail _ (.tail _ (.head _)))))))).2.2.2.2.2.1, (blk_cell (HJ.out.o _ (.tail _ (.tail _ (.tail _ (.tail _ (.tail _ (.tail _ (.tail _ (.head _))))))))) 2).trans rfl⟩ (fun hHeld => ?_)
        clear hK K
        refine norm_ (a' := ?_) ?_ ?_
        rotate_left
        · show Act.put _ (some 163) _ = _
          simp only [Act.put, List.setIfInBounds_toArray, List.set_cons_zero, List.set_cons_succ, i64_w, i32_w]
          rfl
        refine pure_ (i := 25) (N := some 164) (v := ?_) (a' := ?_) #[true, true, true, true, true, true, true, true, true, true, true, true, true, true, true, true, true, true, true, true, true, true, true, true, true, true, true, true, true, false, false, false] rfl rfl (any_of HT_.out (by kernel_rfl)) (fun _ _ _ h => h) (Or.inl ⟨by rfl, ?_⟩) ?_ ?_
        rotate_left
        · intro w'
          go_simp
          with_reducible rfl
        rotate_left
        · simp only [Act.put, List.setIfInBounds_toArray, List.set_cons_zero, List.set_cons_succ, i64_w, i32_w]
          rfl
        refine pure_ (i := 29) (N := some 168) (v := ?_) (a' := ?_) #[true, true, true, true, true, true, true, true, true, true, true, true, true, true, true, true, true, true, true, true, true, true, true, true, true, true, true, true, true, true, false, false] rfl rfl (any_of HT_.out (by kernel_rfl)) (fun _ _ _ h => h) (Or.inl ⟨by rfl, ?_⟩) ?_ ?_
        rotate_left
        · intro w'
          go_simp
          with_reducible rfl
        rotate_left
        · simp only [Act.put, List.setIfInBounds_toArray, List.set_cons_zero, List.set_cons_succ, i64_w, i32_w]
          rfl
        refine pure_ (i := 30) (N := some 169) (v := ?_) (a' := ?_) #[true, true, true, true, true, true, true, true, true, true, true, true, true, true, true, true, true, true, true, true, true, true, true, true, true, true, true, true, true, true, true, false] rfl rfl (any_of HT_.out (by kernel_rfl)) (fun _ _ _ h => h) (Or.inl ⟨by rfl, ?_⟩) ?_ ?_
        rotate_left
        · intro w'
          go_simp
          with_reducible rfl
        rotate_left
        · simp only [Act.put, List.setIfInBounds_toArray, List.set_cons_zero, List.set_cons_succ, i64_w, i32_w]
          rfl
        refine pure_ (i := 31) (N := some 2) (v := ?_) (a' := ?_) #[true, true, true, true, true, true, true, true, true, true, true, true, true, true, true, true, true, true, true, true, true, true, true, true, true, true, true, true, true, true, true, true] rfl rfl (any_of HT_.out (by kernel_rfl)) (fun _ _ _ h => h) (Or.inl ⟨by rfl, ?_⟩) ?_ ?_
        rotate_left
        · intro w'
          go_simp
          with_reducible rfl
        rotate_left
        · simp only [Act.put, List.setIfInBounds_toArray, List.set_cons_zero, List.set_cons_succ, i64_w, i32_w]
          rfl
        refine done_ (done_of HT_.out (by kernel_rfl)) ?_
        try go_wp2_with (fail)
        go_ret
        refine ⟨rfl, ?_⟩
        have hz := HJ.out.b
        first | exact hz | (rw [World.drewN_drewN] at hz; exact hz)
      · have f1 : ts.toList.isEmpty = false := by cases hl : ts.toList with | nil => exact absurd hl hne | cons _ _ => rfl
        have f2 : (ts.toList == []) = false := beq_eq_false_iff_ne.2 hne
        have HJ := Lib.hid (HIr.out.step (below_drew1 (Below.refl _ _)))
        refine start_ (n := 32) (S := fun w' => w'.cell? ⟨px2, 0, none⟩ = some (.string y.f0) ∧ w'.cell? ⟨px2, 1, none⟩ = some (.string y.f1) ∧ w'.cell? ⟨px2, 2, none⟩ = some (.int .i64 y.f2) ∧ w'.cell? ⟨px2, 3, none⟩ = some (.bool y.f3) ∧ w'.cell? ⟨px2, 4, none⟩ = some (.string y.f4) ∧ w'.cell? ⟨px2, 5, none⟩ = some (.slice A2 y.f5.length cp2) ∧ w'.cell? ⟨yb, 0, none⟩ = some (.string y.f0) ∧ w'.cell? ⟨yb, 1, none⟩ = some (.string y.f1) ∧ w'.cell? ⟨yb, 2, none⟩ = some (.int .i64 y.f2) ∧ w'.cell? ⟨yb, 3, none⟩ = some (.bool y.f3) ∧ w'.cell? ⟨yb, 4, none⟩ = some (.string y.f4) ∧ w'.cell? ⟨yb, 5, none⟩ = some (.slice Ay y.f5.length cy) ∧ w'.cell? ⟨b, 2, none⟩ = some (.string ts)) (ds := []) #[false, false, false, false, false, false, false, false, false, false, false, false, false, false, false, false, false, false, false, false, false, false, false, false, false, false, false, false, false, false, false, false] (by kernel_rfl) rfl rfl ⟨(cz6_ (HJ.out.o _ (.tail _ (.tail _ (.head _))))).1, (cz6_ (HJ.out.o _ (.tail _ (.tail _ (.head _))))).2.1, (cz6_ (HJ.out.o _ (.tail _ (.tail _ (.head _))))).2.2.1, (cz6_ (HJ.out.o _ (.tail _ (.tail _ (.head _))))).2.2.2.1, (cz6_ (HJ.out.o _ (.tail _ (.tail _ (.head _))))).2.2.2.2.1, (cz6_ (HJ.out.o _ (.tail _ (.tail _ (.head _))))).2.2.2.2.2.1, (cz6_ (HJ.out.o _ (.tail _ (.tail _ (.tail _ (.tail _ (.tail _ (.head _)))))))).1, (cz6_ (HJ.out.o _ (.tail _ (.tail _ (.tail _ (.tail _ (.tail _ (.head _)))))))).2.1, (cz6_ (HJ.out.o _ (.tail _ (.tail _ (.tail _ (.tail _ (.tail _ (.head _)))))))).2.2.1, (cz6_ (HJ.out.o _ (.tail _ (.tail _ (.tail _ (.tail _ (.tail _ (.head _)))))))).2.2.2.1, (cz6_ (HJ.out.o _ (.tail _ (.tail _ (.tail _ (.tail _ (.tail _ (.head _)))))))).2.2.2.2.1, (cz6_ (HJ.out.o _ (.tail _ (.tail _ (.tail _ (.tail _ (.tail _ (.head _)))))))).2.2.2.2.2.1, (blk_cell (HJ.out.o _ (.tail _ (.tail _ (.tail _ (.tail _ (.tail _ (.tail _ (.tail _ (.head _))))))))) 2).trans rfl⟩ (fun hHeld => ?_); refine with_tabW welT.tab18 welT.bits18 (fun HT_ HW_ => ?_)
        generalize World.drew _ = w5 at HJ hHeld ⊢
        refine pure_ (i := 0) (N := some 139) (v := ?_) (a' := ?_) #[true, false, false, false, false, false, false, false, false, false, false, false, false, false, false, false, false, false, false, false, false, false, false, false, false, false, false, false, false, false, false, false] rfl rfl (any_of HT_.out (by kernel_rfl)) (fun _ _ _ h => h) (Or.inl ⟨by rfl, ?_⟩) ?_ ?_
        rotate_left
        · intro w'
          go_simp
          with_reducible rfl
        rotate_left
        · simp only [Act.put, List.setIfInBounds_toArray, List.set_cons_zero, List.set_cons_succ, i64_w, i32_w]
          rfl
        refine one_ (i := 1) (N := some 140) #[true, true, false, false, false, false, false, false, false, false, false, false, false, false, false, false, false, false, false, false, false, false, false, false, false, false, false, false, false, false, false, false] rfl rfl (one_of HT_.out (by kernel_rfl)) (by decide) (fun K hK => ?_)
        refine goes_ Tryz.func19 (by kernel_rfl) rfl #[.int .i64 112] (by rfl) rfl rfl (by first | rfl | ((try simp only [List.map_toArray, List.map_cons, List.map_nil]); first | done | rfl | (simp only [List.length_drop, List.length_take]; rfl))) ?_
        with_reducible refine (live_num 112 _).mono ?_
        rintro e wq ⟨rfl, ⟨nd, rfl⟩⟩
        refine ⟨_, rfl, ?_⟩
        have HJ' := Lib.hid (HJ.out.drewN nd)
        clear HJ
        have HJ := HJ'
        clear HJ'
        refine hK.out _ _ ⟨(cz6_ (HJ.out.o _ (.tail _ (.tail _ (.head _))))).1, (cz6_ (HJ.out.o _ (.tail _ (.tail _ (.head _))))).2.1, (cz6_ (HJ.out.o _ (.tail _ (.tail _ (.head _))))).2.2.1, (cz6_ (HJ.out.o _ (.tail _ (.tail _ (.head _))))).2.2.2.1, (cz6_ (HJ.out.o _ (.tail _ (.tail _ (.head _))))).2.2.2.2.1, (cz6_ (HJ.out.o _ (.tail _ (.tail _ (.head _))))).2.2.2.2.2.1, (cz6_ (HJ.out.o _ (.tail _ (.tail _ (.tail _ (.tail _ (.tail _ (.head _)))))))).1, (cz6_ (HJ.out.o _ (.tail _ (.tail _ (.tail _ (.tail _ (.tail _ (.head _)))))))).2.1, (cz6_ (HJ.out.o _ (.tail _ (.tail _ (.tail _ (.tail _ (.tail _ (.head _)))))))).2.2.1, (cz6_ (HJ.out.o _ (.tail _ (.tail _ (.tail _ (.tail _ (.tail _ (.head _)))))))).2.2.2.1, (cz6_ (HJ.out.o _ (.tail _ (.tail _ (.tail _ (.tail _ (.tail _ (.head _)))))))).2.2.2.2.1, (cz6_ (HJ.out.o _ (.tail _ (.tail _ (.tail _ (.tail _ (.tail _ (.head _)))))))).2.2.2.2.2.1, (blk_cell (HJ.out.o _ (.tail _ (.tail _ (.tail _ (.tail _ (.tail _ (.tail _ (.tail _ (.head _))))))))) 2).trans rfl⟩ (fun hHeld => ?_)
        clear hK K
        refine norm_ (a' := ?_) ?_ ?_
        rotate_left
        · show Act.put _ (some 140) _ = _
          simp only [Act.put, List.setIfInBounds_toArray, List.set_cons_zero, List.set_cons_succ, i64_w, i32_w]
          rfl
        refine pure_ (i := 2) (N := some 141) (v := ?_) (a' := ?_) #[true, true, true, false, false, false, false, false, false, false, false, false, false, false, false, false, false, false, false, false, false, false, false, false, false, false, false, false, false, false, false, false] rfl rfl (any_of HT_.out (by kernel_rfl)) (fun _ _ _ h => h) (Or.inl ⟨by rfl, ?_⟩) ?_ ?_
        rotate_left
        · intro w'
          go_simp
          with_reducible rfl
        rotate_left
        · simp only [Act.put, List.setIfInBounds_toArray, List.set_cons_zero, List.set_cons_succ, i64_w, i32_w]
          rfl
        refine pure_ (i := 3) (N := some 142) (v := ?_) (a' := ?_) #[true, true, true, true, false, false, false, false, false, false, false, false, false, false, false, false, false, false, false, false, false, false, false, false, false, false, false, false, false, false, false, false] rfl rfl (any_of HT_.out (by kernel_rfl)) (fun _ _ _ h => h) (Or.inl ⟨by rfl, ?_⟩) ?_ ?_
        rotate_left
        · intro w'
          go_simp
          with_reducible rfl
        rotate_left
        · simp only [Act.put, List.setIfInBounds_toArray, List.set_cons_zero, List.set_cons_succ, i64_w, i32_w]
          rfl
        refine pure_ (i := 4) (N := some 143) (v := ?_) (a' := ?_) #[true, true, true, true, true, false, false, false, false, false, false, false, false, false, false, false, false, false, false, false, false, false, false, false, false, false, false, false, false, false, false, false] rfl rfl (any_of HT_.out (by kernel_rfl)) (fun _ _ _ h => h) (Or.inl ⟨by rfl, ?_⟩) ?_ ?_
        rotate_left
        · intro w'
          go_simp
          with_reducible rfl
        rotate_left
        · simp only [Act.put, List.setIfInBounds_toArray, List.set_cons_zero, List.set_cons_succ, i64_w, i32_w]
          rfl
        refine one_ (i := 5) (N := some 144) #[true, true, true, true, true, true, false, false, false, false, false, false, false, false, false, false, false, false, false, false, false, false, false, false, false, false, false, false, false, false, false, false] rfl rfl (one_of HT_.out (by kernel_rfl)) (by decide) (fun K hK => ?_)
        refine goes_ Tryz.func19 (by kernel_rfl) rfl #[.int .i64 0] (by rfl) rfl rfl (by first | rfl | ((try simp only [List.map_toArray, List.map_cons, List.map_nil]); first | done | rfl | (simp only [List.length_drop, List.length_take]; rfl))) ?_
        with_reducible refine (live_num 0 _).mono ?_
        rintro e wq ⟨rfl, ⟨nd, rfl⟩⟩
        refine ⟨_, rfl, ?_⟩
        have HJ' := Lib.hid (HJ.out.drewN nd)
        clear HJ
        have HJ := HJ'
        clear HJ'
        refine hK.out _ _ ⟨(cz6_ (HJ.out.o _ (.tail _ (.tail _ (.head _))))).1, (cz6_ (HJ.out.o _ (.tail _ (.tail _ (.head _))))).2.1, (cz6_ (HJ.out.o _ (.tail _ (.tail _ (.head _))))).2.2.1, (cz6_ (HJ.out.o _ (.tail _ (.tail _ (.head _))))).2.2.2.1, (cz6_ (HJ.out.o _ (.tail _ (.tail _ (.head _))))).2.2.2.2.1, (cz6_ (HJ.out.o _ (.tail _ (.tail _ (.head _))))).2.2.2.2.2.1, (cz6_ (HJ.out.o _ (.tail _ (.tail _ (.tail _ (.tail _ (.tail _ (.head _)))))))).1, (cz6_ (HJ.out.o _ (.tail _ (.tail _ (.tail _ (.tail _ (.tail _ (.head _)))))))).2.1, (cz6_ (HJ.out.o _ (.tail _ (.tail _ (.tail _ (.tail _ (.tail _ (.head _)))))))).2.2.1, (cz6_ (HJ.out.o _ (.tail _ (.tail _ (.tail _ (.tail _ (.tail _ (.head _)))))))).2.2.2.1, (cz6_ (HJ.out.o _ (.tail _ (.tail _ (.tail _ (.tail _ (.tail _ (.head _)))))))).2.2.2.2.1, (cz6_ (HJ.out.o _ (.tail _ (.tail _ (.tail _ (.tail _ (.tail _ (.head _)))))))).2.2.2.2.2.1, (blk_cell (HJ.out.o _ (.tail _ (.tail _ (.tail _ (.tail _ (.tail _ (.tail _ (.tail _ (.head _))))))))) 2).trans rfl⟩ (fun hHeld => ?_)
        clear hK K
        refine norm_ (a' := ?_) ?_ ?_
        rotate_left
        · show Act.put _ (some 144) _ = _
          simp only [Act.put, List.setIfInBounds_toArray, List.set_cons_zero, List.set_cons_succ, i64_w, i32_w]
          rfl
        refine pure_ (i := 6) (N := some 145) (v := ?_) (a' := ?_) #[true, true, true, true, true, true, true, false, false, false, false, false, false, false, false, false, false, false, false, false, false, false, false, false, false, false, false, false, false, false, false, false] rfl rfl (any_of HT_.out (by kernel_rfl)) (fun _ _ _ h => h) (Or.inl ⟨by rfl, ?_⟩) ?_ ?_
        rotate_left
        · intro w'
          go_simp
          with_reducible rfl
        rotate_left
        · simp only [Act.put, List.setIfInBounds_toArray, List.set_cons_zero, List.set_cons_succ, i64_w, i32_w]
          rfl
        refine pure_ (i := 7) (N := some 146) (v := ?_) (a' := ?_) #[true, true, true, true, true, true, true, true, false, false, false, false, false, false, false, false, false, false, false, false, false, false, false, false, false, false, false, false, false, false, false, false] rfl rfl (any_of HT_.out (by kernel_rfl)) (fun _ _ _ h => h) (Or.inl ⟨by rfl, ?_⟩) ?_ ?_
        rotate_left
        · intro w'
          go_simp
          with_reducible rfl
        rotate_left
        · simp only [Act.put, List.setIfInBounds_toArray, List.set_cons_zero, List.set_cons_succ, i64_w, i32_w]
          rfl
        refine pure_ (i := 8) (N := some 147) (v := ?_) (a' := ?_) #[true, true, true, true, true, true, true, true, true, false, false, false, false, false, false, false, false, false, false, false, false, false, false, false, false, false, false, false, false, false, false, false] rfl rfl (any_of HT_.out (by kernel_rfl)) (fun _ _ _ h => h) (Or.inl ⟨by rfl, ?_⟩) ?_ ?_
        rotate_left
        · intro w'
          go_simp
          with_reducible rfl
        rotate_left
        · simp only [Act.put, List.setIfInBounds_toArray, List.set_cons_zero, List.set_cons_succ, i64_w, i32_w]
          rfl
        refine pure_ (i := 9) (N := some 148) (v := ?_) (a' := ?_) #[true, true, true, true, true, true, true, true, true, true, false, false, false, false, false, false, false, false, false, false, false, false, false, false, false, false, false, false, false, false, false, false] rfl rfl (any_of HT_.out (by kernel_rfl)) (fun _ _ _ h => h) (Or.inl ⟨by rfl, ?_⟩) ?_ ?_
        rotate_left
        · intro w'
          go_simp
          with_reducible rfl
        rotate_left
        · simp only [Act.put, List.setIfInBounds_toArray, List.set_cons_zero, List.set_cons_succ, i64_w, i32_w]
          rfl
        refine pure_ (i := 10) (N := some 149) (v := ?_) (a' := ?_) #[true, true, true, true, true, true, true, true, true, true, true, false, false, false, false, false, false, false, false, false, false, false, false, false, false, false, false, false, false, false, false, false] rfl rfl (any_of HT_.out (by kernel_rfl)) (fun _ _ _ h => h) (Or.inl ⟨by rfl, ?_⟩) ?_ ?_
        rotate_left
        · intro w'
          go_simp
          with_reducible rfl
        rotate_left
        · simp only [Act.put, List.setIfInBounds_toArray, List.set_cons_zero, List.set_cons_succ, i64_w, i32_w]
          rfl
        refine pure_ (i := 11) (N := some 150) (v := ?_) (a' := ?_) #[true, true, true, true, true, true, true, true, true, true, true, true, false, false, false, false, false, false, false, false, false, false, false, false, false, false, false, false, false, false, false, false] rfl rfl (any_of HT_.out (by kernel_rfl)) (fun _ _ _ h => h) (Or.inl ⟨by rfl, ?_⟩) ?_ ?_
        rotate_left
        · intro w'
          go_simp
          with_reducible rfl
        rotate_left
        · simp only [Act.put, List.setIfInBounds_toArray, List.set_cons_zero, List.set_cons_succ, i64_w, i32_w]
          rfl
        refine pure_ (i := 12) (N := some 151) (v := ?_) (a' := ?_) #[true, true, true, true, true, true, true, true, true, true, true, true, true, false, false, false, false, false, false, false, false, false, false, false, false, false, false, false, false, false, false, false] rfl rfl (any_of HT_.out (by kernel_rfl)) (fun _ _ _ h => h) (Or.inl ⟨by rfl, ?_⟩) ?_ ?_
        rotate_left
        · intro w'
          go_simp
          with_reducible rfl
        rotate_left
        · simp only [Act.put, List.setIfInBounds_toArray, List.set_cons_zero, List.set_cons_succ, i64_w, i32_w]
          rfl
        refine take_ (i := 13) (N := some 152) (v := ?_) (a' := ?_) #[true, true, true, true, true, true, true, true, true, true, true, true, true, true, false, false, false, false, false, false, false, false, false, false, false, false, false, false, false, false, false, false] rfl rfl (take_ofW HT_.out HW_.out (by kernel_rfl)) (fun _ _ _ h => h) (Or.inl ⟨by rfl, ?_⟩) hHeld ?_ ?_
        rotate_left
        · rintro w' ⟨s0, s1, s2, s3, s4, s5, s6, s7, s8, s9, s10, s11, s12⟩
          go_simp
          with_reducible rfl
        rotate_left
        · simp only [Act.put, List.setIfInBounds_toArray, List.set_cons_zero, List.set_cons_succ, i64_w, i32_w]
          rfl
        refine take_ (i := 14) (N := some 153) (v := ?_) (a' := ?_) #[true, true, true, true, true, true, true, true, true, true, true, true, true, true, true, false, false, false, false, false, false, false, false, false, false, false, false, false, false, false, false, false] rfl rfl (take_ofW HT_.out HW_.out (by kernel_rfl)) (fun _ _ _ h => h) (Or.inl ⟨by rfl, ?_⟩) hHeld ?_ ?_
        rotate_left
        · rintro w' ⟨s0, s1, s2, s3, s4, s5, s6, s7, s8, s9, s10, s11, s12⟩
          go_simp
          with_reducible rfl
        rotate_left
        · simp only [Act.put, List.setIfInBounds_toArray, List.set_cons_zero, List.set_cons_succ, i64_w, i32_w]
          rfl
        refine one_ (i := 15) (N := some 154) #[true, true, true, true, true, true, true, true, true, true, true, true, true, true, true, true, false, false, false, false, false, false, false, false, false, false, false, false, false, false, false, false] rfl rfl (one_of HT_.out (by kernel_rfl)) (by decide) (fun K hK => ?_)
        refine goes_ Tryz.func31 (by kernel_rfl) rfl #[.agg #[.string y.f0, .string y.f1, .int .i64 y.f2, .bool y.f3, .string y.f4, .slice A2 y.f5.length cp2], .agg #[.string y.f0, .string y.f1, .int .i64 y.f2, .bool y.f3, .string y.f4, .slice Ay y.f5.length cy]] (by rfl) rfl rfl (by first | rfl | (go_simp; done) | ((try simp only [List.map_toArray, List.map_cons, List.map_nil]); first | done | rfl | (simp only [List.length_drop, List.length_take]; rfl))) ?_
        have hsA := HJ.out.s _ (.head _)
        have hsB := HJ.out.s _ (.tail _ (.tail _ (.head _)))
        refine (wicketlaw11_same.calls k y.f0 y.f1 y.f2 y.f3 y.f4 A2 cp2 y.f5 y.f0 y.f1 y.f2 y.f3 y.f4 Ay cy y.f5 true _ hsA HX2.out.1 hsB HLY.out KS.out).mono ?_
        clear hsA hsB
        rintro e wq ⟨rfl, hb⟩
        refine ⟨_, rfl, ?_⟩
        have HJ' := Lib.hid (HJ.out.step hb)
        clear HJ
        have HJ := HJ'
        clear HJ'
        clear hb
        refine hK.out _ _ ⟨(cz6_ (HJ.out.o _ (.tail _ (.tail _ (.head _))))).1, (cz6_ (HJ.out.o _ (.tail _ (.tail _ (.head _))))).2.1, (cz6_ (HJ.out.o _ (.tail _ (.tail _ (.head _))))).2.2.1, (cz6_ (HJ.out.o _ (.tail _ (.tail _ (.head _))))).2.2.2.1, (cz6_ (HJ.out.o _ (.tail _ (.tail _ (.head _))))).2.2.2.2.1, (cz6_ (HJ.out.o _ (.tail _ (.tail _ (.head _))))).2.2.2.2.2.1, (cz6_ (HJ.out.o _ (.tail _ (.tail _ (.tail _ (.tail _ (.tail _ (.head _)))))))).1, (cz6_ (HJ.out.o _ (.tail _ (.tail _ (.tail _ (.tail _ (.tail _ (.head _)))))))).2.1, (cz6_ (HJ.out.o _ (.tail _ (.tail _ (.tail _ (.tail _ (.tail _ (.head _)))))))).2.2.1, (cz6_ (HJ.out.o _ (.tail _ (.tail _ (.tail _ (.tail _ (.tail _ (.head _)))))))).2.2.2.1, (cz6_ (HJ.out.o _ (.tail _ (.tail _ (.tail _ (.tail _ (.tail _ (.head _)))))))).2.2.2.2.1, (cz6_ (HJ.out.o _ (.tail _ (.tail _ (.tail _ (.tail _ (.tail _ (.head _)))))))).2.2.2.2.2.1, (blk_cell (HJ.out.o _ (.tail _ (.tail _ (.tail _ (.tail _ (.tail _ (.tail _ (.tail _ (.head _))))))))) 2).trans rfl⟩ (fun hHeld => ?_)
        clear hK K
        refine norm_ (a' := ?_) ?_ ?_
        rotate_left
        · show Act.put _ (some 154) _ = _
          simp only [Act.put, List.setIfInBounds_toArray, List.set_cons_zero, List.set_cons_succ, i64_w, i32_w]
          rfl
        refine pure_ (i := 16) (N := some 155) (v := ?_) (a' := ?_) #[true, true, true, true, true, true, true, true, true, true, true, true, true, true, true, true, true, false, false, false, false, false, false, false, false, false, false, false, false, false, false, false] rfl rfl (any_of HT_.out (by kernel_rfl)) (fun _ _ _ h => h) (Or.inl ⟨by rfl, ?_⟩) ?_ ?_
        rotate_left
        · intro w'
          go_simp
          with_reducible rfl
        rotate_left
        · simp only [Act.put, List.setIfInBounds_toArray, List.set_cons_zero, List.set_cons_succ, i64_w, i32_w]
          rfl
        refine pure_ (i := 17) (N := some 156) (v := ?_) (a' := ?_) #[true, true, true, true, true, true, true, true, true, true, true, true, true, true, true, true, true, true, false, false, false, false, false, false, false, false, false, false, false, false, false, false] rfl rfl (any_of HT_.out (by kernel_rfl)) (fun _ _ _ h => h) (Or.inl ⟨by rfl, ?_⟩) ?_ ?_
        rotate_left
        · intro w'
          go_simp
          with_reducible rfl
        rotate_left
        · simp only [Act.put, List.setIfInBounds_toArray, List.set_cons_zero, List.set_cons_succ, i64_w, i32_w]
          rfl
        refine pure_ (i := 18) (N := some 157) (v := ?_) (a' := ?_) #[true, true, true, true, true, true, true, true, true, true, true, true, true, true, true, true, true, true, true, false, false, false, false, false, false, false, false, false, false, false, false, false] rfl rfl (any_of HT_.out (by kernel_rfl)) (fun _ _ _ h => h) (Or.inl ⟨by rfl, ?_⟩) ?_ ?_
        rotate_left
        · intro w'
          go_simp
          with_reducible rfl
        rotate_left
        · simp only [Act.put, List.setIfInBounds_toArray, List.set_cons_zero, List.set_cons_succ, i64_w, i32_w]
          rfl
        refine one_ (i := 19) (N := some 158) #[true, true, true, true, true, true, true, true, true, true, true, true, true, true, true, true, true, true, true, true, false, false, false, false, false, false, false, false, false, false, false, false] rfl rfl (one_of HT_.out (by kernel_rfl)) (by decide) (fun K hK => ?_)
        refine goes_ Tryz.func19 (by kernel_rfl) rfl #[.int .i64 112] (by rfl) rfl rfl (by first | rfl | ((try simp only [List.map_toArray, List.map_cons, List.map_nil]); first | done | rfl | (simp only [List.length_drop, List.length_take]; rfl))) ?_
        with_reducible refine (live_num 112 _).mono ?_
        rintro e wq ⟨rfl, ⟨nd, rfl⟩⟩
        refine ⟨_, rfl, ?_⟩
        have HJ' := Lib.hid (HJ.out.drewN nd)
        clear HJ
        have HJ := HJ'
        clear HJ'
        refine hK.out _ _ ⟨(cz6_ (HJ.out.o _ (.tail _ (.tail _ (.head _))))).1, (cz6_ (HJ.out.o _ (.tail _ (.tail _ (.head _))))).2.1, (cz6_ (HJ.out.o _ (.tail _ (.tail _ (.head _))))).2.2.1, (cz6_ (HJ.out.o _ (.tail _ (.tail _ (.head _))))).2.2.2.1, (cz6_ (HJ.out.o _ (.tail _ (.tail _ (.head _))))).2.2.2.2.1, (cz6_ (HJ.out.o _ (.tail _ (.tail _ (.head _))))).2.2.2.2.2.1, (cz6_ (HJ.out.o _ (.tail _ (.tail _ (.tail _ (.tail _ (.tail _ (.head _)))))))).1, (cz6_ (HJ.out.o _ (.tail _ (.tail _ (.tail _ (.tail _ (.tail _ (.head _)))))))).2.1, (cz6_ (HJ.out.o _ (.tail _ (.tail _ (.tail _ (.tail _ (.tail _ (.head _)))))))).2.2.1, (cz6_ (HJ.out.o _ (.tail _ (.tail _ (.tail _ (.tail _ (.tail _ (.head _)))))))).2.2.2.1, (cz6_ (HJ.out.o _ (.tail _ (.tail _ (.tail _ (.tail _ (.tail _ (.head _)))))))).2.2.2.2.1, (cz6_ (HJ.out.o _ (.tail _ (.tail _ (.tail _ (.tail _ (.tail _ (.head _)))))))).2.2.2.2.2.1, (blk_cell (HJ.out.o _ (.tail _ (.tail _ (.tail _ (.tail _ (.tail _ (.tail _ (.tail _ (.head _))))))))) 2).trans rfl⟩ (fun hHeld => ?_)
        clear hK K
        refine norm_ (a' := ?_) ?_ ?_
        rotate_left
        · show Act.put _ (some 158) _ = _
          simp only [Act.put, List.setIfInBounds_toArray, List.set_cons_zero, List.set_cons_succ, i64_w, i32_w]
          rfl
        refine pure_ (i := 20) (N := some 159) (v := ?_) (a' := ?_) #[true, true, true, true, true, true, true, true, true, true, true, true, true, true, true, true, true, true, true, true, true, false, false, false, false, false, false, false, false, false, false, false] rfl rfl (any_of HT_.out (by kernel_rfl)) (fun _ _ _ h => h) (Or.inl ⟨by rfl, ?_⟩) ?_ ?_
        rotate_left
        · intro w'
          go_simp
          with_reducible rfl
        rotate_left
        · simp only [Act.put, List.setIfInBounds_toArray, List.set_cons_zero, List.set_cons_succ, i64_w, i32_w]
          rfl
        refine pure_ (i := 21) (N := some 160) (v := ?_) (a' := ?_) #[true, true, true, true, true, true, true, true, true, true, true, true, true, true, true, true, true, true, true, true, true, true, false, false, false, false, false, false, false, false, false, false] rfl rfl (any_of HT_.out (by kernel_rfl)) (fun _ _ _ h => h) (Or.inl ⟨by rfl, ?_⟩) ?_ ?_
        rotate_left
        · intro w'
          go_simp
          with_reducible rfl
        rotate_left
        · simp only [Act.put, List.setIfInBounds_toArray, List.set_cons_zero, List.set_cons_succ, i64_w, i32_w]
          rfl
        refine pure_ (i := 22) (N := some 161) (v := ?_) (a' := ?_) #[true, true, true, true, true, true, true, true, true, true, true, true, true, true, true, true, true, true, true, true, true, true, true, false, false, false, false, false, false, false, false, false] rfl rfl (any_of HT_.out (by kernel_rfl)) (fun _ _ _ h => h) (Or.inl ⟨by rfl, ?_⟩) ?_ ?_
        rotate_left
        · intro w'
          go_simp
          with_reducible rfl
        rotate_left
        · simp only [Act.put, List.setIfInBounds_toArray, List.set_cons_zero, List.set_cons_succ, i64_w, i32_w]
          rfl
        refine pure_ (i := 23) (N := some 162) (v := ?_) (a' := ?_) #[true, true, true, true, true, true, true, true, true, true, true, true, true, true, true, true, true, true, true, true, true, true, true, true, false, false, false, false, false, false, false, false] rfl rfl (any_of HT_.out (by kernel_rfl)) (fun _ _ _ h => h) (Or.inl ⟨by rfl, ?_⟩) ?_ ?_
        rotate_left
        · intro w'
          go_simp
          with_reducible rfl
        rotate_left
        · simp only [Act.put, List.setIfInBounds_toArray, List.set_cons_zero, List.set_cons_succ, i64_w, i32_w]
          rfl
        refine pure_ (i := 26) (N := some 165) (v := ?_) (a' := ?_) #[true, true, true, true, true, true, true, true, true, true, true, true, true, true, true, true, true, true, true, true, true, true, true, true, false, false, true, false, false, false, false, false] rfl rfl (any_of HT_.out (by kernel_rfl)) (fun _ _ _ h => h) (Or.inl ⟨by rfl, ?_⟩) ?_ ?_
        rotate_left
        · intro w'
          go_simp
          with_reducible rfl
        rotate_left
        · simp only [Act.put, List.setIfInBounds_toArray, List.set_cons_zero, List.set_cons_succ, i64_w, i32_w]
          rfl
        refine take_ (i := 27) (N := some 166) (v := ?_) (a' := ?_) #[true, true, true, true, true, true, true, true, true, true, true, true, true, true, true, true, true, true, true, true, true, true, true, true, false, false, true, true, false, false, false, false] rfl rfl (take_ofW HT_.out HW_.out (by kernel_rfl)) (fun _ _ _ h => h) (Or.inl ⟨by rfl, ?_⟩) hHeld ?_ ?_
        rotate_left
        · rintro w' ⟨s0, s1, s2, s3, s4, s5, s6, s7, s8, s9, s10, s11, s12⟩
          go_simp
          with_reducible rfl
        rotate_left
        · simp only [Act.put, List.setIfInBounds_toArray, List.set_cons_zero, List.set_cons_succ, i64_w, i32_w]
          rfl
        refine pure_ (i := 28) (N := some 167) (v := ?_) (a' := ?_) #[true, true, true, true, true, true, true, true, true, true, true, true, true, true, true, true, true, true, true, true, true, true, true, true, false, false, true, true, true, false, false, false] rfl rfl (any_of HT_.out (by kernel_rfl)) (fun _ _ _ h => h) (Or.inl ⟨by rfl, ?_⟩) ?_ ?_
        rotate_left
        · intro w'
          go_simp
          with_reducible rfl
        rotate_left
        · simp only [Act.put, List.setIfInBounds_toArray, List.set_cons_zero, List.set_cons_succ, i64_w, i32_w]
          rfl
        refine one_ (i := 24) (N := some 163) #[true, true, true, true, true, true, true, true, true, true, true, true, true, true, true, true, true, true, true, true, true, true, true, true, true, false, true, true, true, false, false, false] rfl rfl (one_of HT_.out (by kernel_rfl)) (by decide) (fun K hK => ?_)
        refine goes_ Tryz.func19 (by kernel_rfl) rfl #[.int .i64 112] (by rfl) rfl rfl (by first | rfl | ((try simp only [List.map_toArray, List.map_cons, List.map_nil]); first | done | rfl | (simp only [List.length_drop, List.length_take]; rfl))) ?_
        with_reducible refine (live_num 112 _).mono ?_
        rintro e wq ⟨rfl, ⟨nd, rfl⟩⟩
        refine ⟨_, rfl, ?_⟩
        have HJ' := Lib.hid (HJ.out.drewN nd)
        clear HJ
        have HJ := HJ'
        clear HJ'
        refine hK.out _ _ ⟨(cz6_ (HJ.out.o _ (.tail _ (.tail _ (.head _))))).1, (cz6_ (HJ.out.o _ (.tail _ (.tail _ (.head _))))).2.1, (cz6_ (HJ.out.o _ (.tail _ (.tail _ (.head _))))).2.2.1, (cz6_ (HJ.out.o _ (.tail _ (.tail _ (.head _))))).2.2.2.1, (cz6_ (HJ.out.o _ (.tail _ (.tail _ (.head _))))).2.2.2.2.1, (cz6_ (HJ.out.o _ (.tail _ (.tail _ (.head _))))).2.2.2.2.2.1, (cz6_ (HJ.out.o _ (.tail _ (.tail _ (.tail _ (.tail _ (.tail _ (.head _)))))))).1, (cz6_ (HJ.out.o _ (.tail _ (.tail _ (.tail _ (.tail _ (.tail _ (.head _)))))))).2.1, (cz6_ (HJ.out.o _ (.tail _ (.tail _ (.tail _ (.tail _ (.tail _ (.head _)))))))).2.2.1, (cz6_ (HJ.out.o _ (.tail _ (.tail _ (.tail _ (.tail _ (.tail _ (.head _)))))))).2.2.2.1, (cz6_ (HJ.out.o _ (.tail _ (.tail _ (.tail _ (.tail _ (.tail _ (.head _)))))))).2.2.2.2.1, (cz6_ (HJ.out.o _ (.tail _ (.tail _ (.tail _ (.tail _ (.tail _ (.head _)))))))).2.2.2.2.2.1, (blk_cell (HJ.out.o _ (.tail _ (.tail _ (.tail _ (.tail _ (.tail _ (.tail _ (.tail _ (.head _))))))))) 2).trans rfl⟩ (fun hHeld => ?_)
        clear hK K
        refine norm_ (a' := ?_) ?_ ?_
        rotate_left
        · show Act.put _ (some 163) _ = _
          simp only [Act.put, List.setIfInBounds_toArray, List.set_cons_zero, List.set_cons_succ, i64_w, i32_w]
          rfl
        refine pure_ (i := 25) (N := some 164) (v := ?_) (a' := ?_) #[true, true, true, true, true, true, true, true, true, true, true, true, true, true, true, true, true, true, true, true, true, true, true, true, true, true, true, true, true, false, false, false] rfl rfl (any_of HT_.out (by kernel_rfl)) (fun _ _ _ h => h) (Or.inl ⟨by rfl, ?_⟩) ?_ ?_
        rotate_left
        · intro w'
          go_simp
          with_reducible rfl
        rotate_left
        · simp only [Act.put, List.setIfInBounds_toArray, List.set_cons_zero, List.set_cons_succ, i64_w, i32_w]
          rfl
        refine pure_ (i := 29) (N := some 168) (v := ?_) (a' := ?_) #[true, true, true, true, true, true, true, true, true, true, true, true, true, true, true, true, true, true, true, true, true, true, true, true, true, true, true, true, true, true, false, false] rfl rfl (any_of HT_.out (by kernel_rfl)) (fun _ _ _ h => h) (Or.inl ⟨by rfl, ?_⟩) ?_ ?_
        rotate_left
        · intro w'
          go_simp
          with_reducible rfl
        rotate_left
        · simp only [Act.put, List.setIfInBounds_toArray, List.set_cons_zero, List.set_cons_succ, i64_w, i32_w]
          rfl
        refine pure_ (i := 30) (N := some 169) (v := ?_) (a' := ?_) #[true, true, true, true, true, true, true, true, true, true, true, true, true, true, true, true, true, true, true, true, true, true, true, true, true, true, true, true, true, true, true, false] rfl rfl (any_of HT_.out (by kernel_rfl)) (fun _ _ _ h => h) (Or.inl ⟨by rfl, ?_⟩) ?_ ?_
        rotate_left
        · intro w'
          go_simp
          with_reducible rfl
        rotate_left
        · simp only [Act.put, List.setIfInBounds_toArray, List.set_cons_zero, List.set_cons_succ, i64_w, i32_w]
          rfl
        refine pure_ (i := 31) (N := some 2) (v := ?_) (a' := ?_) #[true, true, true, true, true, true, true, true, true, true, true, true, true, true, true, true, true, true, true, true, true, true, true, true, true, true, true, true, true, true, true, true] rfl rfl (any_of HT_.out (by kernel_rfl)) (fun _ _ _ h => h) (Or.inl ⟨by rfl, ?_⟩) ?_ ?_
        rotate_left
        · intro w'
          go_simp
          with_reducible rfl
        rotate_left
        · simp only [Act.put, List.setIfInBounds_toArray, List.set_cons_zero, List.set_cons_succ, i64_w, i32_w]
          rfl
        refine done_ (done_of HT_.out (by kernel_rfl)) ?_
        try go_wp2_with (fail)
        go_ret
        refine ⟨rfl, ?_⟩
        have hz := HJ.out.b
        first | exact hz | (rw [World.drewN_drewN] at hz; exact hz)
    obtain rfl := hX1.symm
    obtain rfl := hX2.symm
    have f1 : y.f1.toList.isEmpty = false := by cases hl : y.f1.toList with | nil => exact absurd hl hne | cons _ _ => rfl
    have f2 : (y.f1.toList == []) = false := beq_eq_false_iff_ne.2 hne
    obtain ⟨u0, u1, u2, u3, u4, u5, u6, u7, u8, u9, u10, u11⟩ := cz6_ (HIr.out.o _ (.tail _ (.tail _ (.tail _ (.head _)))))
    obtain ⟨d0, d1, d2, d3, d4, d5, d6, d7, d8, d9, d10, d11⟩ := cz6_ (HIr.out.o _ (.tail _ (.tail _ (.tail _ (.tail _ (.tail _ (.head _)))))))
    go_wp2_with (go_at_call 19; (with_reducible refine (live_num 0 _).mono ?_); rintro _ w8 ⟨rfl, ⟨nd, rfl⟩⟩)
    refine (wicketlaw11_same.calls k y.f0 y.f1 y.f2 y.f3 y.f4 A1 cp1 y.f5 y.f0 y.f1 y.f2 y.f3 y.f4 Ay cy y.f5 true _ ((HIr.out.drewN nd).s _ (.tail _ (.head _))) HX1.out.1 ((HIr.out.drewN nd).s _ (.tail _ (.tail _ (.head _)))) HLY.out KS.out).mono ?_
    rintro e wh ⟨rfl, hb⟩
    have HIr' := Lib.hid ((HIr.out.drewN nd).step hb)
    clear HIr s1 hb
    clear u0 d0 u1 d1 u2 d2 u3 d3 u4 d4 u5 d5 u6 d6 u7 d7 u8 d8 u9 d9 u10 d10 u11 d11
    have HIr := HIr'
    clear HIr'
    obtain ⟨u0, u1, u2, u3, u4, u5, u6, u7, u8, u9, u10, u11⟩ := cz6_ (HIr.out.o _ (.tail _ (.tail _ (.head _))))
    obtain ⟨d0, d1, d2, d3, d4, d5, d6, d7, d8, d9, d10, d11⟩ := cz6_ (HIr.out.o _ (.tail _ (.tail _ (.tail _ (.tail _ (.tail _ (.head _)))))))
    go_wp2_with (go_at_call 19; (with_reducible refine (live_num 0 _).mono ?_); rintro _ w8 ⟨rfl, ⟨nd, rfl⟩⟩)
    refine (wicketlaw11_same.calls k y.f0 y.f1 y.f2 y.f3 y.f4 A2 cp2 y.f5 y.f0 y.f1 y.f2 y.f3 y.f4 Ay cy y.f5 true _ ((HIr.out.drewN nd).s _ (.head _)) HX2.out.1 ((HIr.out.drewN nd).s _ (.tail _ (.tail _ (.head _)))) HLY.out KS.out).mono ?_
    rintro e wi ⟨rfl, hb⟩
    have HIr' := Lib.hid ((HIr.out.drewN nd).step hb)
    clear HIr hb
    clear u0 d0 u1 d1 u2 d2 u3 d3 u4 d4 u5 d5 u6 d6 u7 d7 u8 d8 u9 d9 u10 d10 u11 d11
    have HIr := HIr'
    clear HIr'
    go_upto_region 21 with (fail)
    have s1 := (blk_cell (HIr.out.o _ (.tail _ (.tail _ (.tail _ (.tail _ (.tail _ (.tail _ (.head _)))))))) 1).trans rfl
    have t2 := (blk_cell (HIr.out.o _ (.tail _ (.tail _ (.tail _ (.tail _ (.tail _ (.tail _ (.tail _ (.head _))))))))) 2).trans rfl
    rcases hts with ⟨hty, rfl, rfl⟩ | ⟨hty, rfl, rfl⟩
    · rw [hty] at t2
      go_quiet ((go_at_call 19; exact num_quiet 0 _ _))
      go_wp2_with (fail)
      go_ret
      exact ⟨rfl, (HIr.out.drewN _).b⟩
    · have f3 : (ts.toList == y.f1.toList) = false := beq_eq_false_iff_ne.2 hty
      go_quiet ((go_at_call 19; exact num_quiet 112 _ _))
      go_wp2_with (fail)
      go_ret
      exact ⟨rfl, (HIr.out.drewN _).b⟩
end Go.Proofs.YtmimipgmhgalaaaGreatDoor.PAll
end
section
namespace Go.Proofs.YtmimipgmhgalaaaGreatDoor.Sha
open Go.RowKit Go.Proofs.YtmimipgmhgalaaaGreatDoorW.PrintWords Go.Proofs.YtmimipgmhgalaaaGreatDoor.Plain Go.Proofs.YtmimipgmhgalaaaGreatDoor.PAll
set_option linter.unusedSimpArgs false
set_option linter.unusedVariables false
def mapPl (c : Nat) : Nat := if c = 43 then 45 else if c = 47 then 95 else c
def okc (c : Nat) : Prop := c ≠ 45 ∧ c ≠ 95 ∧ mapPl c ∈ al64
instance (c : Nat) : Decidable (okc c) := inferInstanceAs (Decidable (_ ∧ _ ∧ _))
def v6 (c : Nat) : Nat := value al64 (mapPl c)
def sixI (c : Nat) : Int := if okc c then (v6 c : Int) else -1
theorem six_all : ∀ c : Nat, c < 256 → wicketref11_six.f 5 (c : Int) = some (sixI c) := by decide +kernel
theorem six_ev (c : Nat) (h : c < 256) : Ev (fun k => wicketref11_six.f k (c : Int)) (sixI c) := Ev.of (fun k => wicketref11_six.mono _ k) (six_all c h)
theorem v6_lt (c : Nat) (h : okc c) : v6 c < 64 := by
  have := value_lt (al := al64) [mapPl c] (by simpa using h.2.2)
  exact this (v6 c) (by simp [v6])
def bits6 (v : Nat) : List Nat := [v / 32 % 2, v / 16 % 2, v / 8 % 2, v / 4 % 2, v / 2 % 2, v / 1 % 2]
theorem bitq (v j : Nat) (hv : v < 64) : Int.tmod (wrap64 (Int.tdiv (v : Int) (j : Int))) 2 = ((v / j % 2 : Nat) : Int) := by
  have h1 : v / j ≤ v := Nat.div_le_self _ _
  rw [← Int.ofNat_tdiv]
  generalize v / j = q at h1 ⊢
  rw [w64 (by omega) (by omega)]
  exact (Int.ofNat_tmod q 2).symm
theorem l2_ev {r : ByteArray × Bool} (s : ByteArray) (n : Int) (acc : List Nat) (i : Int) (v : Nat) (hv : v < 64) (ha : acc.length < 1000000) (h : Ev (fun k => wicketref11_decoded.l1 k s n (toI (acc ++ bits6 v)) (wrap64 (i + 1))) r) : Ev (fun k => wicketref11_decoded.l2 k s n (toI acc) i (v : Int) 32) r := by
  have b32 := bitq v 32 hv
  have b16 := bitq v 16 hv
  have b8 := bitq v 8 hv
  have b4 := bitq v 4 hv
  have b2 := bitq v 2 hv
  have b1 := bitq v 1 hv
  have hl (l : List Nat) (hl : l.length < 6) : (toI (acc ++ l)).length < 17592186044416 := by rw [toI_len, List.length_append]; omega
  have e (l : List Nat) (x : Nat) : toI (acc ++ l) ++ [(x : Int)] = toI (acc ++ (l ++ [x])) := by rw [toI_push, List.append_assoc]
  rw [← List.append_nil acc]
  refine Ev.step (f := fun k => wicketref11_decoded.l2 k s n (toI (acc ++ [v / 32 % 2])) i (v : Int) 16) (fun k => ?_) ?_
  · simp only [wicketref11_decoded.l2]
    rw [if_pos (by decide), if_neg (by decide), if_pos (hl [] (by simp)), show Int.tmod (wrap64 (Int.tdiv (v : Int) 32)) 2 = _ from b32, e, show wrap64 (Int.tdiv 32 2) = 16 from by kernel_rfl]
    rfl
  refine Ev.step (f := fun k => wicketref11_decoded.l2 k s n (toI (acc ++ [v / 32 % 2, v / 16 % 2])) i (v : Int) 8) (fun k => ?_) ?_
  · simp only [wicketref11_decoded.l2]
    rw [if_pos (by decide), if_neg (by decide), if_pos (hl _ (by simp)), show Int.tmod (wrap64 (Int.tdiv (v : Int) 16)) 2 = _ from b16, e, show wrap64 (Int.tdiv 16 2) = 8 from by kernel_rfl]
    rfl
  refine Ev.step (f := fun k => wicketref11_decoded.l2 k s n (toI (acc ++ [v / 32 % 2, v / 16 % 2, v / 8 % 2])) i (v : Int) 4) (fun k => ?_) ?_
  · simp only [wicketref11_decoded.l2]
    rw [if_pos (by decide), if_neg (by decide), if_pos (hl _ (by simp)), show Int.tmod (wrap64 (Int.tdiv (v : Int) 8)) 2 = _ from b8, e, show wrap64 (Int.tdiv 8 2) = 4 from by kernel_rfl]
    rfl
  refine Ev.step (f := fun k => wicketref11_decoded.l2 k s n (toI (acc ++ [v / 32 % 2, v / 16 % 2, v / 8 % 2, v / 4 % 2])) i (v : Int) 2) (fun k => ?_) ?_
  · simp only [wicketref11_decoded.l2]
    rw [if_pos (by decide), if_neg (by decide), if_pos (hl _ (by simp)), show Int.tmod (wrap64 (Int.tdiv (v : Int) 4)) 2 = _ from b4, e, show wrap64 (Int.tdiv 4 2) = 2 from by kernel_rfl]
    rfl
  refine Ev.step (f := fun k => wicketref11_decoded.l2 k s n (toI (acc ++ [v / 32 % 2, v / 16 % 2, v / 8 % 2, v / 4 % 2, v / 2 % 2])) i (v : Int) 1) (fun k => ?_) ?_
  · simp only [wicketref11_decoded.l2]
    rw [if_pos (by decide), if_neg (by decide), if_pos (hl _ (by simp)), show Int.tmod (wrap64 (Int.tdiv (v : Int) 2)) 2 = _ from b2, e, show wrap64 (Int.tdiv 2 2) = 1 from by kernel_rfl]
    rfl
  refine Ev.step (f := fun k => wicketref11_decoded.l2 k s n (toI (acc ++ bits6 v)) i (v : Int) 0) (fun k => ?_) ?_
  · simp only [wicketref11_decoded.l2]
    rw [if_pos (by decide), if_neg (by decide), if_pos (hl _ (by simp)), show Int.tmod (wrap64 (Int.tdiv (v : Int) 1)) 2 = _ from b1, e, show wrap64 (Int.tdiv 1 2) = 0 from by kernel_rfl]
    rfl
  refine Ev.step (f := fun k => wicketref11_decoded.l1 k s n (toI (acc ++ bits6 v)) (wrap64 (i + 1))) (fun k => ?_) h
  simp only [wicketref11_decoded.l2]
  rw [if_neg (by decide)]
theorem at_take {s : ByteArray} {n i x : Nat} {d : List Nat} (hn : n ≤ s.size) (h : ((sN s).take n).drop i = x :: d) : i < n ∧ bt s (i : Int) = (x : Int) ∧ x < 256 ∧ ((sN s).take n).drop (i + 1) = d := by
  obtain ⟨h1, h2, h3⟩ := drop_at h
  rw [List.length_take, sN_len] at h1
  have hi : i < n := by omega
  have h4 : (sN s).getD i 0 = x := by rw [← h2, List.getD_eq_getElem?_getD, List.getD_eq_getElem?_getD, List.getElem?_take, if_pos hi]
  refine ⟨hi, by rw [bt_sN s i (by omega), h4], ?_, h3⟩
  have : x ∈ (sN s).take n := by
    have : x ∈ ((sN s).take n).drop i := by rw [h]; simp
    exact List.mem_of_mem_drop this
  exact sN_all s x (List.mem_of_mem_take this)
theorem l1_good {r : ByteArray × Bool} (s : ByteArray) (n : Nat) (hn : n ≤ s.size) (hs : s.size ≤ 65536) : ∀ (d : List Nat) (i : Nat) (acc : List Nat), ((sN s).take n).drop i = d → acc.length = 6 * i → i + d.length ≤ n → (∀ c ∈ d, okc c) →
    Ev (fun k => wicketref11_decoded.l3 k (toI (acc ++ d.flatMap fun c => bits6 (v6 c))) ([] : List Int)) r → Ev (fun k => wicketref11_decoded.l1 k s (n : Int) (toI acc) (i : Int)) r
  | [], i, acc, hd, ha, hi, hok, h => by
    have h1 := drop_none hd
    rw [List.length_take, sN_len] at h1
    refine Ev.step (f := fun k => wicketref11_decoded.l3 k (toI acc) ([] : List Int)) (fun k => ?_) (by simpa using h)
    simp only [wicketref11_decoded.l1]
    rw [if_neg (by omega)]
  | x :: d, i, acc, hd, ha, hi, hok, h => by
    obtain ⟨h1, h2, h3, h4⟩ := at_take hn hd
    have hx := hok x (by simp)
    have hv := v6_lt x hx
    have h6 : sixI x = (v6 x : Int) := if_pos hx
    refine Ev.step (f := fun k => (wicketref11_six.f k (x : Int)).bind fun t441 => (if t441 < 0 then (some ((⟨#[]⟩ : ByteArray), false)) else (wicketref11_decoded.l2 k s (n : Int) (toI acc) (i : Int) t441 32))) (fun k => ?_) ?_
    · simp only [wicketref11_decoded.l1]
      rw [if_pos (by omega), if_pos (by omega), if_pos (by omega), h2]
    · refine Ev.bind (six_ev x h3) ?_
      rw [h6]
      refine Ev.neg (by omega) (l2_ev s _ acc _ _ hv (by omega) ?_)
      rw [w64 (by omega) (by omega)]
      refine l1_good s n hn hs d (i + 1) _ h4 (by rw [List.length_append, ha]; simp [bits6]; omega) (by simp only [List.length_cons] at hi; omega) (fun c hc => hok c (by simp [hc])) ?_
      rw [List.append_assoc]
      simpa using h
theorem l1_bad (s : ByteArray) (n : Nat) (hn : n ≤ s.size) (hs : s.size ≤ 65536) : ∀ (d : List Nat) (i : Nat) (acc : List Nat), ((sN s).take n).drop i = d → acc.length = 6 * i → (∃ c ∈ d, ¬ okc c) →
    Ev (fun k => wicketref11_decoded.l1 k s (n : Int) (toI acc) (i : Int)) ((⟨#[]⟩ : ByteArray), false)
  | [], i, acc, hd, ha, hok => by obtain ⟨c, hc, _⟩ := hok; cases hc
  | x :: d, i, acc, hd, ha, hok => by
    obtain ⟨h1, h2, h3, h4⟩ := at_take hn hd
    refine Ev.step (f := fun k => (wicketref11_six.f k (x : Int)).bind fun t441 => (if t441 < 0 then (some ((⟨#[]⟩ : ByteArray), false)) else (wicketref11_decoded.l2 k s (n : Int) (toI acc) (i : Int) t441 32))) (fun k => ?_) ?_
    · simp only [wicketref11_decoded.l1]
      rw [if_pos (by omega), if_pos (by omega), if_pos (by omega), h2]
    refine Ev.bind (six_ev x h3) ?_
    by_cases hx : okc x
    · have hv := v6_lt x hx
      have h6 : sixI x = (v6 x : Int) := if_pos hx
      rw [h6]
      refine Ev.neg (by omega) (l2_ev s _ acc _ _ hv (by omega) ?_)
      rw [w64 (by omega) (by omega)]
      refine l1_bad s n hn hs d (i + 1) _ h4 (by rw [List.length_append, ha]; simp [bits6]; omega) ?_
      obtain ⟨c, hc, hb⟩ := hok
      rcases List.mem_cons.1 hc with rfl | hc
      · exact absurd hx hb
      · exact ⟨c, hc, hb⟩
    · have h6 : sixI x = -1 := if_neg hx
      rw [h6]
      exact Ev.pos (by decide) (Ev.now _)
def packs : List Nat → List Nat × List Nat
  | b0 :: b1 :: b2 :: b3 :: b4 :: b5 :: b6 :: b7 :: r => ((2 * (2 * (2 * (2 * (2 * (2 * (2 * b0 + b1) + b2) + b3) + b4) + b5) + b6) + b7) :: (packs r).1, (packs r).2)
  | l => ([], l)
theorem dbl (c b : Nat) (hc : c < 100000) (hb : b < 2) : wrap64 (wrap64 (2 * (c : Int)) + (b : Int)) = ((2 * c + b : Nat) : Int) := by
  rw [w64 (x := 2 * (c : Int)) (by omega) (by omega), w64 (by omega) (by omega)]
  omega
theorem l4_step {r : ByteArray × Bool} (bits out : List Nat) (c j b : Nat) (hc : c < 100000) (hb : b < 2) (hj : j < 8) (hl : j < bits.length) (hm : bits.length < 1000000) (hg : bits.getD j 0 = b) (h : Ev (fun k => wicketref11_decoded.l4 k (toI bits) (toI out) ((2 * c + b : Nat) : Int) ((j + 1 : Nat) : Int)) r) :
    Ev (fun k => wicketref11_decoded.l4 k (toI bits) (toI out) (c : Int) (j : Int)) r := by
  refine Ev.step (fun k => ?_) h
  simp only [wicketref11_decoded.l4]
  rw [if_pos (by omega), if_pos (by omega), if_pos (by rw [toI_len]; omega), rd_toI, hg, dbl c b hc hb, w64 (by omega) (by omega)]
  rfl
theorem l4_ev {r : ByteArray × Bool} (b0 b1 b2 b3 b4 b5 b6 b7 : Nat) (l out : List Nat) (h0 : b0 < 2) (h1 : b1 < 2) (h2 : b2 < 2) (h3 : b3 < 2) (h4 : b4 < 2) (h5 : b5 < 2) (h6 : b6 < 2) (h7 : b7 < 2) (hm : l.length < 900000) (ho : out.length < 1000000)
    (h : Ev (fun k => wicketref11_decoded.l3 k (toI l) (toI (out ++ [2 * (2 * (2 * (2 * (2 * (2 * (2 * b0 + b1) + b2) + b3) + b4) + b5) + b6) + b7]))) r) :
    Ev (fun k => wicketref11_decoded.l4 k (toI (b0 :: b1 :: b2 :: b3 :: b4 :: b5 :: b6 :: b7 :: l)) (toI out) 0 0) r := by
  have hlen : (b0 :: b1 :: b2 :: b3 :: b4 :: b5 :: b6 :: b7 :: l).length = l.length + 8 := rfl
  refine l4_step _ _ 0 0 b0 (by omega) h0 (by omega) (by omega) (by omega) rfl ?_
  refine l4_step _ _ _ 1 b1 (by omega) h1 (by omega) (by omega) (by omega) rfl ?_
  refine l4_step _ _ _ 2 b2 (by omega) h2 (by omega) (by omega) (by omega) rfl ?_
  refine l4_step _ _ _ 3 b3 (by omega) h3 (by omega) (by omega) (by omega) rfl ?_
  refine l4_step _ _ _ 4 b4 (by omega) h4 (by omega) (by omega) (by omega) rfl ?_
  refine l4_step _ _ _ 5 b5 (by omega) h5 (by omega) (by omega) (by omega) rfl ?_
  refine l4_step _ _ _ 6 b6 (by omega) h6 (by omega) (by omega) (by omega) rfl ?_
  refine l4_step _ _ _ 7 b7 (by omega) h7 (by omega) (by omega) (by omega) rfl ?_
  refine Ev.step (fun k => ?_) h
  simp only [wicketref11_decoded.l4]
  rw [if_neg (by omega), if_pos (by rw [toI_len]; omega), if_pos (by rw [toI_len]; omega), ← toI_push]
  have e : ((2 * (2 * (2 * (2 * (2 * (2 * (2 * (2 * 0 + b0) + b1) + b2) + b3) + b4) + b5) + b6) + b7 : Nat) : Int) % 256 = ((2 * (2 * (2 * (2 * (2 * (2 * (2 * b0 + b1) + b2) + b3) + b4) + b5) + b6) + b7 : Nat) : Int) := by omega
  rw [e]
  rfl
def fin (out rest : List Nat) : ByteArray × Bool := if ∀ b ∈ rest, b = 0 then (strOfNums (toI out), decide (rest.length < 6)) else ((⟨#[]⟩ : ByteArray), false)
theorem l5_ev (out rest : List Nat) (hr : rest.length < 100000) : ∀ (d : List Nat) (i : Nat), rest.drop i = d → i ≤ rest.length → Ev (fun k => wicketref11_decoded.l5 k (toI rest) (toI out) (i : Int)) (if ∀ b ∈ d, b = 0 then (strOfNums (toI out), decide (rest.length < 6)) else ((⟨#[]⟩ : ByteArray), false))
  | [], i, hd, hi => by
    have h1 := drop_none hd
    refine Ev.step (f := fun _ => some (strOfNums (toI out), decide (((toI rest).length : Int) < 6))) (fun k => ?_) (Ev.eq (Ev.now _) ?_)
    · simp only [wicketref11_decoded.l5]
      rw [if_neg (by rw [toI_len]; omega)]
    · rw [if_pos (by simp), toI_len]
      congr 1
      rw [decide_eq_decide]; omega
  | x :: d, i, hd, hi => by
    obtain ⟨h1, h2, h3⟩ := drop_at hd
    by_cases hx : x = 0
    · refine Ev.step (f := fun k => wicketref11_decoded.l5 k (toI rest) (toI out) ((i + 1 : Nat) : Int)) (fun k => ?_) (Ev.eq (l5_ev out rest hr d (i + 1) h3 (by omega)) ?_)
      · simp only [wicketref11_decoded.l5]
        rw [if_pos (by rw [toI_len]; omega), if_pos (by omega), rd_toI, h2, if_pos (by omega), w64 (by omega) (by omega)]
        rfl
      · simp [hx]
    · refine Ev.step (f := fun _ => some ((⟨#[]⟩ : ByteArray), false)) (fun k => ?_) (Ev.eq (Ev.now _) ?_)
      · simp only [wicketref11_decoded.l5]
        rw [if_pos (by rw [toI_len]; omega), if_pos (by omega), rd_toI, h2, if_neg (by omega)]
      · rw [if_neg (fun h => hx (h x (by simp)))]
theorem uncons {n : Nat} {l : List Nat} (h : n + 1 ≤ l.length) : ∃ x r, l = x :: r ∧ n ≤ r.length := by
  match l, h with
  | x :: r, h => exact ⟨x, r, rfl, by simpa using h⟩
theorem packs_cons (b0 b1 b2 b3 b4 b5 b6 b7 : Nat) (r : List Nat) : packs (b0 :: b1 :: b2 :: b3 :: b4 :: b5 :: b6 :: b7 :: r) = ((2 * (2 * (2 * (2 * (2 * (2 * (2 * b0 + b1) + b2) + b3) + b4) + b5) + b6) + b7) :: (packs r).1, (packs r).2) := rfl
theorem bit8 (b0 b1 b2 b3 b4 b5 b6 b7 c : Nat) (r a b : List Nat) (h : 2 * (2 * (2 * (2 * (2 * (2 * (2 * b0 + b1) + b2) + b3) + b4) + b5) + b6) + b7 = c) (hr : packs r = (a, b)) : packs (b0 :: b1 :: b2 :: b3 :: b4 :: b5 :: b6 :: b7 :: r) = (c :: a, b) := by
  rw [packs_cons, h, hr]
theorem l3_ev : ∀ (m : Nat) (bits out : List Nat), bits.length ≤ m → bits.length < 900000 → (∀ b ∈ bits, b < 2) → out.length + bits.length < 1000000 → Ev (fun k => wicketref11_decoded.l3 k (toI bits) (toI out)) (fin (out ++ (packs bits).1) (packs bits).2) := by
  intro m
  induction m using Nat.strongRecOn with
  | ind m ih =>
    intro bits out hm hl hb ho
    by_cases h8 : bits.length < 8
    · have hp : packs bits = ([], bits) := by
        match bits, h8 with
        | [], _ => rfl
        | [_], _ => rfl
        | [_, _], _ => rfl
        | [_, _, _], _ => rfl
        | [_, _, _, _], _ => rfl
        | [_, _, _, _, _], _ => rfl
        | [_, _, _, _, _, _], _ => rfl
        | [_, _, _, _, _, _, _], _ => rfl
        | _ :: _ :: _ :: _ :: _ :: _ :: _ :: _ :: _, h => simp at h; omega
      rw [hp, List.append_nil]
      refine Ev.step (f := fun k => wicketref11_decoded.l5 k (toI bits) (toI out) ((0 : Nat) : Int)) (fun k => ?_) (l5_ev out bits (by omega) bits 0 rfl (by omega))
      simp only [wicketref11_decoded.l3]
      rw [if_neg (by rw [toI_len]; omega)]
      rfl
    · obtain ⟨b0, r0, rfl, g0⟩ := uncons (n := 7) (show 7 + 1 ≤ bits.length by omega)
      obtain ⟨b1, r1, rfl, g1⟩ := uncons (n := 6) g0
      obtain ⟨b2, r2, rfl, g2⟩ := uncons (n := 5) g1
      obtain ⟨b3, r3, rfl, g3⟩ := uncons (n := 4) g2
      obtain ⟨b4, r4, rfl, g4⟩ := uncons (n := 3) g3
      obtain ⟨b5, r5, rfl, g5⟩ := uncons (n := 2) g4
      obtain ⟨b6, r6, rfl, g6⟩ := uncons (n := 1) g5
      obtain ⟨b7, l, rfl, g7⟩ := uncons (n := 0) g6
      clear g0 g1 g2 g3 g4 g5 g6 g7
      simp only [List.length_cons] at hm hl ho
      refine Ev.step (f := fun k => wicketref11_decoded.l4 k (toI (b0 :: b1 :: b2 :: b3 :: b4 :: b5 :: b6 :: b7 :: l)) (toI out) 0 0) (fun k => ?_) ?_
      · simp only [wicketref11_decoded.l3]
        rw [if_pos (by rw [toI_len]; simp only [List.length_cons]; omega)]
      refine l4_ev b0 b1 b2 b3 b4 b5 b6 b7 l out (hb _ (by simp)) (hb _ (by simp)) (hb _ (by simp)) (hb _ (by simp)) (hb _ (by simp)) (hb _ (by simp)) (hb _ (by simp)) (hb _ (by simp)) (by omega) (by omega) ?_
      have := ih l.length (by omega) l (out ++ [2 * (2 * (2 * (2 * (2 * (2 * (2 * b0 + b1) + b2) + b3) + b4) + b5) + b6) + b7]) (Nat.le_refl _) (by omega) (fun b h => hb b (by simp [h])) (by rw [List.length_append]; simp; omega)
      rw [List.append_assoc] at this
      exact this
def tailB : List Nat → List Nat
  | [] => []
  | [x] => bits6 x
  | [x, y] => [y / 8 % 2, y / 4 % 2, y / 2 % 2, y / 1 % 2]
  | [x, y, z] => [z / 2 % 2, z / 1 % 2]
  | _ :: _ :: _ :: _ :: r => tailB r
theorem pk1 (x y : Nat) (hx : x < 64) (hy : y < 64) : 2 * (2 * (2 * (2 * (2 * (2 * (2 * (x / 32 % 2) + x / 16 % 2) + x / 8 % 2) + x / 4 % 2) + x / 2 % 2) + x / 1 % 2) + y / 32 % 2) + y / 16 % 2 = x * 4 + y / 16 := by omega
theorem pk2 (y z : Nat) (hy : y < 64) (hz : z < 64) : 2 * (2 * (2 * (2 * (2 * (2 * (2 * (y / 8 % 2) + y / 4 % 2) + y / 2 % 2) + y / 1 % 2) + z / 32 % 2) + z / 16 % 2) + z / 8 % 2) + z / 4 % 2 = y % 16 * 16 + z / 4 := by omega
theorem pk3 (z t : Nat) (hz : z < 64) (ht : t < 64) : 2 * (2 * (2 * (2 * (2 * (2 * (2 * (z / 2 % 2) + z / 1 % 2) + t / 32 % 2) + t / 16 % 2) + t / 8 % 2) + t / 4 % 2) + t / 2 % 2) + t / 1 % 2 = z % 4 * 64 + t := by omega
theorem packs_une : ∀ v : List Nat, Lt 64 v → packs (v.flatMap bits6) = ((une v).1, tailB v)
  | [], _ => rfl
  | [x], h => rfl
  | [x, y], h => bit8 _ _ _ _ _ _ _ _ _ _ _ _ (pk1 x y (h x (by simp)) (h y (by simp))) rfl
  | [x, y, z], h => bit8 _ _ _ _ _ _ _ _ _ _ _ _ (pk1 x y (h x (by simp)) (h y (by simp))) (bit8 _ _ _ _ _ _ _ _ _ _ _ _ (pk2 y z (h y (by simp)) (h z (by simp))) rfl)
  | x :: y :: z :: t :: r, h => bit8 _ _ _ _ _ _ _ _ _ _ _ _ (pk1 x y (h x (by simp)) (h y (by simp))) (bit8 _ _ _ _ _ _ _ _ _ _ _ _ (pk2 y z (h y (by simp)) (h z (by simp))) (bit8 _ _ _ _ _ _ _ _ _ _ _ _ (pk3 z t (h z (by simp)) (h t (by simp))) (packs_une r (fun c hc => h c (by simp [hc])))))
theorem tail_une : ∀ v : List Nat, Lt 64 v → ((tailB v).length < 6 ↔ v.length % 4 ≠ 1) ∧ (v.length % 4 ≠ 1 → ((∀ b ∈ tailB v, b = 0) ↔ (une v).2 = 0))
  | [], _ => by simp [tailB, une]
  | [x], h => by simp [tailB, une, bits6]
  | [x, y], h => by
    have hy := h y (by simp)
    simp [tailB, une]
    omega
  | [x, y, z], h => by
    have hz := h z (by simp)
    simp [tailB, une]
    omega
  | x :: y :: z :: t :: r, h => by
    have ih := tail_une r (fun c hc => h c (by simp [hc]))
    simp only [tailB, une, List.length_cons]
    rw [show (r.length + 1 + 1 + 1 + 1) % 4 = r.length % 4 by omega]
    exact ih
end Go.Proofs.YtmimipgmhgalaaaGreatDoor.Sha
end
section
namespace Go.Proofs
open Go.Shelf
def Tryz.lays119_ren : Go.Shelf.Ren := ⟨fun | 119 => 169 | n => n, fun | 21 => 21 | 4 => 4 | n => n, fun | n => n⟩
theorem Tryz.lays119 : Go.Proofs.Lays.n119 Tryz.prog Tryz.lays119_ren := {
  mixed := by kernel_rfl
  f119 := Tryz.func169.trans (congrArg some (by kernel_rfl))
  t4 := Tryz.underlying4
  a4 := Tryz.isAgg4
  z4 := Tryz.sizeOf4
  v4 := Tryz.zeroValue4
  t21 := Tryz.underlying21
  a21 := Tryz.isAgg21
  z21 := Tryz.sizeOf21
  v21 := Tryz.zeroValue21 }
theorem Tryz.utf8_ValidRune (r : Int) (w : World) :
    Calls Tryz.prog 169 #[.int .i32 r] w fun e w' => e = .returned (.bool (Lib.validRune r)) ∧ w' = w := Any.utf8_ValidRune Tryz.lays119 r w
def Tryz.lays137_ren : Go.Shelf.Ren := ⟨fun | 137 => 168 | 217 => 158 | 266 => 170 | n => n, fun | 9 => 9 | 5 => 5 | 3 => 3 | n => n, fun | n => n⟩
theorem Tryz.lays137 : Go.Proofs.Lays.n137 Tryz.prog Tryz.lays137_ren := {
  mixed := by kernel_rfl
  f137 := Tryz.func168.trans (congrArg some (by kernel_rfl))
  f217 := Tryz.func158.trans (congrArg some (by kernel_rfl))
  f266 := Tryz.func170.trans (congrArg some (by kernel_rfl))
  t3 := Tryz.underlying3
  a3 := Tryz.isAgg3
  z3 := Tryz.sizeOf3
  v3 := Tryz.zeroValue3
  t5 := Tryz.underlying5
  a5 := Tryz.isAgg5
  z5 := Tryz.sizeOf5
  v5 := Tryz.zeroValue5
  t9 := Tryz.underlying9
  a9 := Tryz.isAgg9
  z9 := Tryz.sizeOf9
  v9 := Tryz.zeroValue9 }
open Go.RowKit in
theorem Tryz.strings_IndexByte (s : ByteArray) (c : Int) (w : World) :
    Calls Tryz.prog 168 #[.string s, .int .u8 c] w fun e w' => e = .returned (.int .i64 (Lib.indexByte s.data.toList c.toNat.toUInt8)) ∧ w' = w := Any.strings_IndexByte Tryz.lays137 s c w
end Go.Proofs
end
section
namespace Go.Proofs.YtmimipgmhgalaaaGreatDoor.PAll
open Go.RowKit Go.Proofs.YtmimipgmhgalaaaGreatDoorW.PrintWords
set_option linter.unusedVariables false
set_option linter.unusedSimpArgs false
theorem any_quiet_left {P : Program} {f : FuncId} {args : Array Value} {w : World} {n : Nat} {v : Value}
    (h : Calls P f args (w.drewN n) fun e w' => e = .returned v ∧ w.drewN n = w') : Calls P f args (w.drewN n) fun e w'' => e = .returned v ∧ ∃ m, w'' = w.drewN m :=
  h.mono fun _ _ ⟨he, hm⟩ => ⟨he, n, hm.symm⟩
theorem any_quiet_add {P : Program} {f : FuncId} {args : Array Value} {w : World} {a n : Nat} {v : Value}
    (h : Calls P f args (w.drewN (a + n)) fun e w' => e = .returned v ∧ w.drewN (a + n) = w') : Calls P f args (w.drewN (a + n)) fun e w'' => e = .returned v ∧ ∃ m, w'' = w.drewN (a + m) :=
  h.mono fun _ _ ⟨he, hm⟩ => ⟨he, n, hm.symm⟩
theorem absentB (l : List UInt8) (c : UInt8) (h : ∀ b ∈ l, b ≠ c) : Lib.indexByte l c = -1 := by
  induction l with
  | nil => rfl
  | cons b l ih =>
    unfold Lib.indexByte
    have hb : (b == c) = false := by
      rw [Bool.eq_false_iff]
      intro e
      exact h b (by simp) (eq_of_beq e)
    rw [ih fun x hx => h x (by simp [hx]), hb]
    rfl
abbrev DU : ByteArray := ⟨#[45, 95]⟩
def isDU (x : Nat) : Bool := x == 45 || x == 95
theorem DU_index : ∀ x, x < 128 → decide (0 ≤ Lib.indexByte DU.data.toList x.toUInt8) = isDU x := by decide +kernel
theorem DU_small : ∀ b ∈ DU.data.toList, b.toNat < 128 := by decide +kernel
theorem DU_at : ∀ pos, pos < 2 → (Utf8.decode DU pos).2 = 1 ∧ (Utf8.decode DU pos).1 < 128 := by decide +kernel
def DuOk (x : Nat) (w : World) (e : Ending) (w' : World) : Prop := ∃ n : Int, e = .returned (.int .i64 n) ∧ decide (0 ≤ n) = isDU x ∧ Below w.heap.size w w'
set_option maxRecDepth 100000 in
set_option maxHeartbeats 1000000 in
theorem du_low (x : Nat) (w : World) (hx : x < 128) : Calls Tryz.prog 154 #[.string DU, .int .i32 (x : Int)] w (DuOk x w) := by
  have hcall : ∀ W : World, Calls Tryz.prog 168 #[.string DU, .int .u8 (x : Int)] W fun e w' => e = .returned (.int .i64 (Lib.indexByte DU.data.toList x.toUInt8)) ∧ W = w' := fun W =>
    (Tryz.strings_IndexByte DU (x : Int) W).mono fun e w' ⟨h, hw⟩ => ⟨by rw [h, Int.toNat_natCast], hw.symm⟩
  have HX := Lib.hid (DU_index x hx)
  have i0 : (0 : Int) ≤ (x : Int) := by omega
  have i1 : (x : Int) < 128 := by omega
  obtain ⟨L, hL⟩ : ∃ L, L = DU := ⟨_, rfl⟩
  rw [← hL] at hcall ⊢
  rw [← hL] at HX
  clear hL hx
  go_enter Tryz.func154, Tryz.ntmps154
  go_wp2_with (go_at_call 168; refine (hcall _).mono ?_; rintro e w1 ⟨rfl, rfl⟩)
  go_ret
  exact ⟨_, rfl, HX.out, Below.refl _ _⟩
set_option maxRecDepth 100000 in
set_option maxHeartbeats 1000000 in
theorem du_err (w : World) : Calls Tryz.prog 154 #[.string DU, .int .i32 65533] w fun e w' => e = .returned (.int .i64 (-1)) ∧ Below w.heap.size w w' := by
  have HA := Lib.hid DU_at
  have HZ := Lib.hid (show DU.size = 2 from rfl)
  obtain ⟨L, hL⟩ : ∃ L, L = DU := ⟨_, rfl⟩
  rw [← hL] at HA HZ ⊢
  clear hL
  go_enter Tryz.func154, Tryz.ntmps154
  go_wp2
  go_loopg [5, 6] 2 (fun gf v5 v6 wx => ∃ pos : Nat, wx.heap[w.heap.size]? = some (.stringIter L pos) ∧ Below w.heap.size w wx ∧ pos + gf = 2)
  case atStart => exact ⟨0, World.iter_heap w L 0, (Below.refl _ w).alloc (Nat.le_refl _) _, by omega⟩
  case round =>
    obtain ⟨pos, hit, hbw, hfu⟩ := hrel
    by_cases hps : pos < L.size
    · have hp := HA.out pos (by rw [HZ.out] at hps; omega)
      obtain ⟨g', rfl⟩ : ∃ g', gk = g' + 1 := ⟨gk - 1, by have := HZ.out; omega⟩
      have hnx : ∀ ty, (Instr.next (.pointer (some ⟨w.heap.size, 0, none⟩)) true ty).run Tryz.prog wr = _ := fun ty => Lib.run_next_any_at wr w.heap.size L pos ty hit hps
      obtain ⟨R, hR⟩ : ∃ R, (Utf8.decode L pos).1 = R := ⟨_, rfl⟩
      rw [hp.1, hR] at hnx
      rw [hR] at hp
      have hR1 : ((R : Int) == 65533) = false := by
        rw [Bool.eq_false_iff]
        intro h
        have := eq_of_beq h
        omega
      have hit2 := Lib.iterAt_heap wr w.heap.size L pos (pos + 1) hit
      have hbw2 := Lib.below_iterAt hbw (k := w.heap.size) (Nat.le_refl _) L (pos + 1)
      obtain ⟨W, hWd⟩ : ∃ W, wr.iterAt w.heap.size L (pos + 1) = W := ⟨_, rfl⟩
      rw [hWd] at hnx hit2 hbw2
      clear hp hR hit hbw hWd
      go_wp2
      go_roundg g'
      case measure => omega
      case rel => exact ⟨pos + 1, hit2, hbw2, by omega⟩
    · have hnx : ∀ ty, (Instr.next (.pointer (some ⟨w.heap.size, 0, none⟩)) true ty).run Tryz.prog wr = _ := fun ty => Lib.run_next_end_at wr w.heap.size L pos ty hit hps
      go_wp2
      go_ret
      exact ⟨rfl, hbw⟩
set_option maxRecDepth 100000 in
set_option maxHeartbeats 1000000 in
theorem du_bad (x : Nat) (w : World) (h0 : 128 ≤ x) (h1 : x ≠ 65533) (h2 : x ≤ 1114111) (hv : Lib.validRune (x : Int) = false) : Calls Tryz.prog 154 #[.string DU, .int .i32 (x : Int)] w fun e w' => e = .returned (.int .i64 (-1)) ∧ Below w.heap.size w w' := by
  have hcall : ∀ W : World, Calls Tryz.prog 169 #[.int .i32 (x : Int)] W fun e w' => e = .returned (.bool false) ∧ W = w' := fun W =>
    (Tryz.utf8_ValidRune (x : Int) W).mono fun e w' ⟨h, hw⟩ => ⟨by rw [h, hv], hw.symm⟩
  have i0 : (0 : Int) ≤ (x : Int) := by omega
  have i1 : decide ((x : Int) < 128) = false := decide_eq_false (by omega)
  have i2 : ((x : Int) == 65533) = false := by
    rw [Bool.eq_false_iff]
    intro h
    have := eq_of_beq h
    omega
  obtain ⟨L, hL⟩ : ∃ L, L = DU := ⟨_, rfl⟩
  rw [← hL]
  clear hL hv h0 h1 h2
  go_enter Tryz.func154, Tryz.ntmps154
  go_wp2_with (go_at_call 169; refine (hcall _).mono ?_; rintro e w1 ⟨rfl, rfl⟩)
  go_ret
  exact ⟨rfl, Below.refl _ _⟩
set_option maxRecDepth 100000 in
set_option maxHeartbeats 2000000 in
theorem du_wide (x : Nat) (w : World) (h0 : 128 ≤ x) (h1 : x ≠ 65533) (h2 : x ≤ 1114111) (hv : Lib.validRune (x : Int) = true) : Calls Tryz.prog 154 #[.string DU, .int .i32 (x : Int)] w fun e w' => e = .returned (.int .i64 (-1)) ∧ Below w.heap.size w w' := by
  have hcall : ∀ W : World, Calls Tryz.prog 169 #[.int .i32 (x : Int)] W fun e w' => e = .returned (.bool true) ∧ W = w' := fun W =>
    (Tryz.utf8_ValidRune (x : Int) W).mono fun e w' ⟨h, hw⟩ => ⟨by rw [h, hv], hw.symm⟩
  have hE := Lib.hid (encode_facts (x : Int) (by rw [validRune_eq]; exact hv) (by omega))
  have HS := Lib.hid DU_small
  have HZ := Lib.hid (show DU.size = 2 from rfl)
  have i0 : (0 : Int) ≤ (x : Int) := by omega
  have i1 : decide ((x : Int) < 128) = false := decide_eq_false (by omega)
  have i2 : ((x : Int) == 65533) = false := by
    rw [Bool.eq_false_iff]
    intro h
    have := eq_of_beq h
    omega
  obtain ⟨L, hL⟩ : ∃ L, L = DU := ⟨_, rfl⟩
  rw [← hL] at HS HZ ⊢
  clear hL hv h0 h1 h2
  obtain ⟨E, hEd⟩ : ∃ E, E = Utf8.encode (x : Int) := ⟨_, rfl⟩
  have hcv : ∀ W : World, (convert 21 9 (.int .i32 (x : Int))).run Tryz.prog W = .ok (.string E) W := fun W => by
    rw [hEd]; exact run_convert_int_string W 21 9 .i32 _ (by rw [Tryz.underlying21]; rfl) Tryz.underlying9
  rw [← hEd] at hE
  have hE1 := hE.out.1
  have hE2 := hE.out.2.1
  clear hEd
  go_enter Tryz.func154, Tryz.ntmps154
  go_wp2_with (go_at_call 169; refine (hcall _).mono ?_; rintro e w1 ⟨rfl, rfl⟩)
  go_step3
  go_wp2
  obtain ⟨m, hm⟩ : ∃ m : Nat, E.size = m + 1 := ⟨E.size - 1, by omega⟩
  have hm1 : (E.size : Int) - 1 = (m : Int) := by omega
  have hlt : m < E.size := by omega
  rw [hm1]
  by_cases hmL : m < L.size
  · obtain ⟨b, hb⟩ : ∃ b, b = E[m]'hlt := ⟨_, rfl⟩
    have hb1 : 128 ≤ b.toNat := by
      have h := hE.out.2.2 (by omega)
      rw [hb]
      simpa [hm] using h
    obtain ⟨a, ha⟩ : ∃ a, a = L[m]'hmL := ⟨_, rfl⟩
    have ha1 : a.toNat < 128 := by rw [ha]; exact HS.out _ (by show L.data[m] ∈ _; simp)
    refine wp_loop_rounds 1 ?_
    rw [rounds_succ]
    have hmz : (m : Int) < (L.size : Int) := by omega
    go_wp2
    have hidx : ∀ W : World, (Instr.index 9 (.string L) (.int .i64 (m : Int))).run Tryz.prog W = .ok (.int .u8 (a.toNat : Int)) W := fun W => by
      rw [ha]; clear hm hm1; go_simp
    have hidy : ∀ W : World, (Instr.index 9 (.string E) (.int .i64 (m : Int))).run Tryz.prog W = .ok (.int .u8 (b.toNat : Int)) W := fun W => by
      rw [hb]; clear hm hm1; go_simp
    have hne : ((a.toNat : Int) != (b.toNat : Int)) = true := by
      rw [bne_iff_ne]
      omega
    have hcall2 : ∀ W : World, Calls Tryz.prog 168 #[.string (L.extract (m + 1) L.size), .int .u8 (b.toNat : Int)] W fun e w' => e = .returned (.int .i64 (-1)) ∧ W = w' := fun W =>
      (Tryz.strings_IndexByte _ (b.toNat : Int) W).mono fun e w' ⟨h, hw⟩ => ⟨by
        rw [h, absentB]
        intro c hc e
        have h1 := HS.out c (mem_extract hc)
        rw [e, Int.toNat_natCast] at h1
        simp at h1
        omega, hw.symm⟩
    have j0 : (0 : Int) ≤ (m : Int) := by omega
    have j1 : (m : Int) ≤ 3 := by omega
    have j2 : IntKind.i64.wrap ((m : Int) + 1) = (m : Int) + 1 := IntWalk.i64_in _ (by omega)
    have j3 : (0 : Int) ≤ (m : Int) + 1 := by omega
    have j4 : ((m : Int) + 1).toNat = m + 1 := by omega
    have j5 : (m : Int) + 1 ≤ (L.size : Int) := by omega
    have HC := Lib.hid hcall2
    clear ha hb hm hm1 hcall hcall2
    go_step3
    go_wp2
    go_quiet (fail)
    go_wp2
    go_quiet ((go_at_call 168; first | exact any_quiet_left (HC.out _) | exact any_quiet_add (HC.out _)))
    go_wp2
    rw [Exit.noGoto_ret]
    go_simp
    go_ret
    exact ⟨rfl, pw_below_drewN (Below.refl _ _) _⟩
  · refine wp_loop_rounds 1 ?_
    rw [rounds_succ]
    have hmz : decide ((m : Int) < (L.size : Int)) = false := decide_eq_false (by omega)
    go_wp2
    rw [Exit.noGoto_ret]
    go_simp
    go_ret
    exact ⟨rfl, Below.refl _ _⟩
theorem isDU_wide (x : Nat) (h : 128 ≤ x) : isDU x = false := by
  unfold isDU
  rw [Bool.or_eq_false_iff, beq_eq_false_iff_ne, beq_eq_false_iff_ne]
  omega
theorem du_any (x : Nat) (w : World) (hx : x ≤ 1114111) : Calls Tryz.prog 154 #[.string DU, .int .i32 (x : Int)] w (DuOk x w) := by
  by_cases h0 : x < 128
  · exact du_low x w h0
  · have hI := isDU_wide x (by omega)
    have key : Calls Tryz.prog 154 #[.string DU, .int .i32 (x : Int)] w fun e w' => e = .returned (.int .i64 (-1)) ∧ Below w.heap.size w w' := by
      by_cases h1 : x = 65533
      · subst h1; exact du_err w
      · cases hv : Lib.validRune (x : Int) with
        | true => exact du_wide x w (by omega) h1 hx hv
        | false => exact du_bad x w (by omega) h1 hx hv
    exact key.mono fun e w' ⟨he, hb⟩ => ⟨-1, he, by rw [hI]; rfl, hb⟩
theorem dec_facts (s : ByteArray) (pos : Nat) (h : pos < s.size) : ∃ R n, Utf8.decode s pos = (R, n) ∧ R ≤ 1114111 ∧ 1 ≤ n ∧ pos + n ≤ s.size ∧
    ((n = 1 ∧ (s.data.toList.getD pos 0).toNat = R ∧ R < 128) ∨ (128 ≤ R ∧ ∀ q, q < n → 128 ≤ (s.data.toList.getD (pos + q) 0).toNat)) := by
  have hl : s.data.toList.length = s.size := by rw [Array.length_toList]; rfl
  rw [Lib.decode_N, hl]
  have l0 := (s.data.toList.getD pos 0).toNat_lt
  generalize e0 : (s.data.toList.getD pos 0).toNat = b0 at *
  generalize e1 : (s.data.toList.getD (pos + 1) 0).toNat = b1 at *
  generalize e2 : (s.data.toList.getD (pos + 2) 0).toNat = b2 at *
  generalize e3 : (s.data.toList.getD (pos + 3) 0).toNat = b3 at *
  by_cases hb : b0 < 128
  · refine ⟨b0, 1, ?_, by omega, by omega, by omega, .inl ⟨rfl, rfl, hb⟩⟩
    unfold Lib.decodeN; rw [if_pos hb]
  · rcases Lib.decodeN_shape (s.size - pos) b0 b1 b2 b3 with ⟨h1, _⟩ | ⟨h1, h2, h3, h4, h5⟩ | ⟨h1, h2, h3, h4, h5, h6, h7⟩ | ⟨h1, h2, h3, h4, h5, h6, h7, h8⟩ | h1
    · omega
    · refine ⟨_, _, h5, by omega, by omega, by omega, .inr ⟨h4, fun q hq => ?_⟩⟩
      match q, hq with
      | 0, _ => rw [Nat.add_zero, e0]; omega
      | 1, _ => rw [e1]; omega
    · refine ⟨_, _, h7, by omega, by omega, by omega, .inr ⟨by omega, fun q hq => ?_⟩⟩
      match q, hq with
      | 0, _ => rw [Nat.add_zero, e0]; omega
      | 1, _ => rw [e1]; omega
      | 2, _ => rw [e2]; omega
    · refine ⟨_, _, h8, by omega, by omega, by omega, .inr ⟨by omega, fun q hq => ?_⟩⟩
      match q, hq with
      | 0, _ => rw [Nat.add_zero, e0]; omega
      | 1, _ => rw [e1]; omega
      | 2, _ => rw [e2]; omega
      | 3, _ => rw [e3]; omega
    · refine ⟨_, _, h1, by omega, by omega, by omega, .inr ⟨by omega, fun q hq => ?_⟩⟩
      match q, hq with
      | 0, _ => rw [Nat.add_zero, e0]; omega
def hasDU (l : List UInt8) : Bool := l.any fun c => isDU c.toNat
theorem contains_isDU : ∀ n : Fin 256, ([45, 95] : List UInt8).contains (UInt8.ofNat n.val) = isDU n.val := by decide +kernel
theorem contains_DU (c : UInt8) : ([45, 95] : List UInt8).contains c = isDU c.toNat := by
  have h := contains_isDU ⟨c.toNat, c.toNat_lt⟩
  rw [UInt8.ofNat_toNat] at h
  exact h
theorem containsAny_DU : ∀ (l : List UInt8), Lib.containsAny l [45, 95] = hasDU l
  | [] => rfl
  | c :: r => by
    have ih := containsAny_DU r
    have hge := Lib.indexAny_ge [45, 95] r
    unfold Lib.containsAny hasDU at *
    rw [List.any_cons, Lib.indexAny]
    rw [contains_DU]
    cases h : isDU c.toNat with
    | true => rfl
    | false =>
      rw [Bool.false_or, ← ih]
      simp only [Bool.false_eq_true, if_false]
      by_cases hm : Lib.indexAny r [45, 95] = -1
      · rw [hm]; rfl
      · rw [if_neg (fun e => hm (beq_iff_eq.1 e)), decide_eq_decide]; omega
set_option maxRecDepth 100000 in
set_option maxHeartbeats 2000000 in
theorem indexAny_short (s : ByteArray) (w : World) (h8 : s.size ≤ 8) : Calls Tryz.prog 130 #[.string s, .string DU] w fun e w' => ∃ n : Int, e = .returned (.int .i64 n) ∧ decide (0 ≤ n) = hasDU s.data.toList ∧ Below w.heap.size w w' := by
  have hsl : s.data.toList.length = s.size := by rw [Array.length_toList]; rfl
  have hdec := dec_facts s
  have HD := Lib.hid hdec
  have h8z : decide ((8 : Int) < (s.size : Int)) = false := decide_eq_false (by omega)
  clear hdec
  have HRU := Lib.hid du_any
  have hZ : DU.size = 2 := rfl
  have hE : DU.toList.isEmpty = false := by rw [Lib.toList_data]; rfl
  obtain ⟨L, hL⟩ : ∃ L, L = DU := ⟨_, rfl⟩
  rw [← hL] at HRU hZ hE ⊢
  clear hL
  obtain ⟨G, hG⟩ : ∃ G, hasDU s.data.toList = G := ⟨_, rfl⟩
  rw [hG]
  go_enter Tryz.func130, Tryz.ntmps130
  go_wp2_with (go_at_call 155; refine (Tryz.strings_shouldUseASCIISet _ _).mono ?_; rintro e w' ⟨rfl, hw⟩; rw [hw, h8z])
  go_loopg [9, 10] s.size (fun g _ _ wx => ∃ pos : Nat, pos + g = s.size ∧ wx.heap[w.heap.size]? = some (.stringIter s pos) ∧ Below w.heap.size w wx ∧ hasDU (s.data.toList.drop pos) = G)
  case atStart => exact ⟨0, by omega, World.iter_heap w s 0, (Below.refl _ w).alloc (Nat.le_refl _) _, by rw [List.drop_zero]; exact hG⟩
  case round =>
    clear hG
    obtain ⟨pos, hpg, hit, hbw, hH⟩ := hrel
    by_cases hps : pos < s.size
    · obtain ⟨R, n, hRn, hR1, hn1, hn2, hcase⟩ := HD.out pos hps
      have hnx : ∀ ty, (Instr.next (.pointer (some ⟨w.heap.size, 0, none⟩)) true ty).run Tryz.prog wr = _ := fun ty => Lib.run_next_any_at wr w.heap.size s pos ty hit hps
      rw [hRn] at hnx
      have hit2 := Lib.iterAt_heap wr w.heap.size s pos (pos + n) hit
      have hbw2 := Lib.below_iterAt hbw (k := w.heap.size) (Nat.le_refl _) s (pos + n)
      obtain ⟨W, hWd⟩ : ∃ W, wr.iterAt w.heap.size s (pos + n) = W := ⟨_, rfl⟩
      simp only at hnx
      rw [hWd] at hnx hit2 hbw2
      have hgt : s.data.toList.getD pos 0 = s.data.toList[pos]'(by omega) := by rw [List.getD_eq_getElem?_getD, List.getElem?_eq_getElem (by omega)]; rfl
      cases hdu : isDU R with
      | true =>
        have hfin : G = true := by
          rw [← hH, List.drop_eq_getElem_cons (by omega)]
          rcases hcase with ⟨_, h2, _⟩ | ⟨h2, _⟩
          · unfold hasDU
            rw [List.any_cons, ← hgt, h2, hdu]; rfl
          · rw [isDU_wide R h2] at hdu; cases hdu
        have HF := Lib.hid hfin
        have HC := Lib.hid (HRU.out R W hR1)
        have HB := Lib.hid hbw2
        clear hH hcase hfin hRn hit hbw hWd hit2 hbw2 hgt
        go_wp2_with (go_at_call 154; refine HC.out.mono ?_; rintro e w2 ⟨z, rfl, hz, hb2⟩; rw [hdu] at hz; have hz2 : (0 : Int) ≤ z := of_decide_eq_true hz; have HB2 := Lib.hid hb2; clear hb2 hz)
        go_ret
        exact ⟨_, rfl, by rw [HF.out]; exact decide_eq_true (by omega), HB.out.trans (HB2.out.mono HB.out.size)⟩
      | false =>
        have hnext : hasDU (s.data.toList.drop (pos + n)) = G := by
          rw [← hH]
          have key : ∀ m, m ≤ n → hasDU (s.data.toList.drop pos) = hasDU (s.data.toList.drop (pos + m)) := by
            intro m
            induction m with
            | zero => intro _; rfl
            | succ m ih =>
              intro hm
              rw [ih (by omega), List.drop_eq_getElem_cons (show pos + m < s.data.toList.length by omega)]
              unfold hasDU
              rw [List.any_cons]
              have hb : isDU (s.data.toList[pos + m]'(by omega)).toNat = false := by
                have hg2 : s.data.toList.getD (pos + m) 0 = s.data.toList[pos + m]'(by omega) := by rw [List.getD_eq_getElem?_getD, List.getElem?_eq_getElem (by omega)]; rfl
                rcases hcase with ⟨h1, h2, _⟩ | ⟨_, h2⟩
                · obtain rfl : m = 0 := by omega
                  rw [← hg2, Nat.add_zero, h2]; exact hdu
                · rw [← hg2]; exact isDU_wide _ (h2 m (by omega))
              rw [hb, Bool.false_or]; rfl
          exact (key n (Nat.le_refl _)).symm
        have HN := Lib.hid hnext
        have HC := Lib.hid (HRU.out R W hR1)
        have HB := Lib.hid hbw2
        have HI := Lib.hid hit2
        clear hH hcase hnext hRn hit hbw hWd hit2 hbw2 hgt
        go_wp2_with (go_at_call 154; refine HC.out.mono ?_; rintro e w2 ⟨z, rfl, hz, hb2⟩; rw [hdu] at hz; have hz2 : decide ((0 : Int) ≤ z) = false := hz; have HB2 := Lib.hid hb2; clear hb2 hz)
        go_roundg (s.size - (pos + n))
        case measure => omega
        case rel => exact ⟨pos + n, by omega, (HB2.out.block _ (blk_lt HI.out)).trans HI.out, HB.out.trans (HB2.out.mono HB.out.size), HN.out⟩
    · have hnx : ∀ ty, (Instr.next (.pointer (some ⟨w.heap.size, 0, none⟩)) true ty).run Tryz.prog wr = _ := fun ty => Lib.run_next_end_at wr w.heap.size s pos ty hit hps
      rw [List.drop_eq_nil_of_le (by omega)] at hH
      have HH := Lib.hid hH
      have HB := Lib.hid hbw
      clear hH hbw
      go_wp2
      go_ret
      exact ⟨_, rfl, by rw [← HH.out]; rfl, HB.out⟩
theorem indexAny_du (s : ByteArray) (w : World) (hs : s.size < 4294967281) : Calls Tryz.prog 130 #[.string s, .string DU] w fun e w' => ∃ n : Int, e = .returned (.int .i64 n) ∧ decide (0 ≤ n) = hasDU s.data.toList ∧ Below w.heap.size w w' := by
  by_cases h8 : s.size ≤ 8
  · exact indexAny_short s w h8
  · refine (Tryz.strings_IndexAny_long (by intro w; kernel_rfl) s DU w (by decide) (by omega) hs (by decide) (fun j b hb => DU_small b (List.mem_of_getElem? hb))).mono fun e w' ⟨he, hw⟩ => ⟨_, he, ?_, ?_⟩
    · exact containsAny_DU s.data.toList
    · rw [hw]; exact below_alloc (below_alloc (Below.refl _ _) _) _
def strings_ContainsAny.f (a0 a1 : ByteArray) : Option Bool := if a0.size < 4294967281 ∧ a1 = DU then some (hasDU a0.data.toList) else none
set_option maxHeartbeats 1000000 in
theorem strings_ContainsAny.calls (a0 a1 : ByteArray) (r1 : Bool) (w : World) (h : strings_ContainsAny.f a0 a1 = some r1) :
    Calls Tryz.prog 96 #[.string a0, .string a1] w fun e w' => e = .returned (.bool r1) ∧ Below w.heap.size w w' := by
  unfold strings_ContainsAny.f at h
  split at h
  · rename_i hs
    obtain ⟨h1, rfl⟩ := hs
    obtain rfl := Option.some.inj h
    have HQ := Lib.hid (indexAny_du a0 w h1)
    go_enter Tryz.func96, Tryz.ntmps96
    go_wp2_with (go_at_call 130; refine HQ.out.mono ?_; rintro e w1 ⟨z, rfl, hz, hb⟩; have HZ := Lib.hid hz; clear hz)
    go_ret
    exact ⟨by rw [← HZ.out]; rfl, hb⟩
  · cases h
end Go.Proofs.YtmimipgmhgalaaaGreatDoor.PAll
end
section
namespace Go.Proofs.YtmimipgmhgalaaaGreatDoor.PAll
open Go.RowKit Go.Proofs.YtmimipgmhgalaaaGreatDoorW.PrintWords Go.Shelf
set_option linter.unusedVariables false
set_option linter.unusedSimpArgs false
def repL (x y : UInt8) (l : List UInt8) : List UInt8 := l.map fun c => if c = x then y else c
theorem repL_none (x y : UInt8) (l : List UInt8) (h : x ∉ l) : repL x y l = l := by
  unfold repL
  conv => rhs; rw [← List.map_id l]
  apply List.map_congr_left
  intro c hc
  have hne : c ≠ x := fun e => h (by rw [← e]; exact hc)
  show (if c = x then y else c) = c
  rw [if_neg hne]
theorem repL_same (x : UInt8) (l : List UInt8) : repL x x l = l := by
  unfold repL
  conv => rhs; rw [← List.map_id l]
  apply List.map_congr_left
  intro c _
  by_cases h : c = x
  · rw [if_pos h]; exact h.symm
  · rw [if_neg h]; rfl
theorem index_step (x y : UInt8) : ∀ (l : List UInt8), 0 < l.count x → ∃ j : Nat, Lib.index l [x] = (j : Int) ∧ j + 1 ≤ l.length ∧ l.count x = (l.drop (j + 1)).count x + 1 ∧ repL x y l = l.take j ++ [y] ++ repL x y (l.drop (j + 1))
  | [], h => by simp at h
  | c :: r, h => by
    rw [Lib.index_one]
    by_cases e : c = x
    · subst e
      exact ⟨0, by simp [Lib.indexByte], by simp, by simp, by simp [repL]⟩
    · rw [List.count_cons_of_ne e] at h
      obtain ⟨j, h1, h2, h3, h4⟩ := index_step x y r h
      rw [Lib.index_one] at h1
      refine ⟨j + 1, ?_, by simpa using h2, by rw [List.count_cons_of_ne e, h3]; rfl, ?_⟩
      · simp [Lib.indexByte, e, h1] <;> omega
      · have e2 : repL x y (c :: r) = c :: repL x y r := by unfold repL; rw [List.map_cons, if_neg e]
        rw [e2, h4]; rfl
theorem count_call (s : ByteArray) (c : UInt8) (w : World) : Calls Tryz.prog 115 #[.string s, .string ⟨#[c]⟩] w fun e w' => e = .returned (.int .i64 (s.data.toList.count c : Nat)) ∧ w' = w := by
  refine (Tryz.strings_Count_one s c w).mono fun e w' ⟨he, hw⟩ => ⟨?_, hw⟩
  rw [he]
  rfl
theorem count_notin (x : UInt8) (l : List UInt8) (h : l.count x = 0) : x ∉ l := fun hm => by have := List.count_pos_iff.2 hm; omega
set_option maxHeartbeats 4000000 in
set_option maxRecDepth 100000 in
theorem replace_one (s : ByteArray) (x y : UInt8) (w : World) (hs : s.size < 4294967281) :
    Calls Tryz.prog 132 #[.string s, .string ⟨#[x]⟩, .string ⟨#[y]⟩, .int .i64 (-1)] w fun e w' => e = .returned (.string ⟨(repL x y s.data.toList).toArray⟩) ∧ Below w.heap.size w w' := by
  have hsl : s.data.toList.length = s.size := by rw [Array.length_toList]; rfl
  by_cases hxy : x = y
  · subst hxy
    have hbeq : (x == x) = true := beq_self_eq_true _
    rw [repL_same]
    go_enter Tryz.func132, Tryz.ntmps132
    go_wp2
    go_ret
    exact ⟨by cases s; rfl, Below.refl _ _⟩
  · have hbeq : (x == y) = false := beq_eq_false_iff_ne.2 hxy
    obtain ⟨K, hK⟩ : ∃ K, s.data.toList.count x = K := ⟨_, rfl⟩
    have hC := count_call s x w
    rw [hK] at hC
    have hKl : K ≤ s.size := by rw [← hK, ← hsl]; exact List.count_le_length
    by_cases hK0 : K = 0
    · subst hK0
      have hr := repL_none x y _ (count_notin x _ hK)
      have HR := Lib.hid hr
      clear hr
      go_enter Tryz.func132, Tryz.ntmps132
      go_wp2_with (go_at_call 115; refine hC.mono ?_; rintro e w' ⟨rfl, rfl⟩)
      go_ret
      exact ⟨by rw [HR.out]; cases s; rfl, Below.refl _ _⟩
    · have hKz : ((K : Int) == 0) = false := beq_eq_false_iff_ne.2 (by omega)
      have hx1 : (⟨#[x]⟩ : ByteArray).size = 1 := rfl
      have hy1 : (⟨#[y]⟩ : ByteArray).size = 1 := rfl
      have HK := Lib.hid hK
      clear hK
      go_enter Tryz.func132, Tryz.ntmps132
      go_wp2_with (go_at_call 115; refine hC.mono ?_; rintro e w' ⟨rfl, rfl⟩)
      refine (Tryz.Builder_Grow_fresh w'.heap.size w'.heap.size s.size _ (Nat.le_refl _) (heap_alloc_new w' _) (by simp) (by omega)).mono ?_
      rintro e w1 ⟨rfl, hb0, hb1⟩
      have H1 := Lib.hid (Or.inr hb0 : Lib.IsBuilder 88 5 w'.heap.size w'.heap.size (Lib.byteCells []) w1)
      have Hb1 := Lib.hid (((Below.refl w'.heap.size w').alloc (Nat.le_refl _) _).trans hb1)
      clear hb0 hb1
      go_wp2_with fail
      go_loopw [11, 12, 53] (fun v11 _ v53 wx => ∃ (i start : Nat) (acc : List UInt8), v53 = .int .i64 (i : Int) ∧ v11 = .int .i64 (start : Int) ∧ i ≤ K ∧ start ≤ s.size ∧ (s.data.toList.drop start).count x + i = K ∧ acc.length = start ∧ acc ++ repL x y (s.data.toList.drop start) = repL x y s.data.toList ∧
        Lib.IsBuilder 88 5 w'.heap.size w'.heap.size (Lib.byteCells acc) wx ∧ Below w'.heap.size w' wx) (fun _ _ v53 _ => K - (intOf v53).toNat)
      case atStart => exact ⟨0, 0, [], rfl, rfl, Nat.zero_le _, Nat.zero_le _, by rw [List.drop_zero, HK.out]; rfl, rfl, by rw [List.drop_zero, List.nil_append], H1.out, Hb1.out⟩
      case round =>
        clear H1 Hb1
        obtain ⟨i, start, acc, rfl, rfl, hi, hst, hcn, hal, hac, hB, hW⟩ := hrel
        have hBw : w'.heap.size ≤ wr.heap.size := hW.size
        have c1 : (0 : Int) ≤ (start : Int) := by omega
        have c2 : (start : Int) ≤ (s.size : Int) := by omega
        have hcl : (Lib.byteCells acc).length = start := by rw [Lib.byteCells_length]; exact hal
        by_cases hit : i < K
        · obtain ⟨j, hj, hjl, hcj, hrj⟩ := index_step x y (s.data.toList.drop start) (by omega)
          rw [List.length_drop, hsl] at hjl
          rw [List.drop_drop] at hcj hrj
          have c3 : (start : Int) ≤ (start : Int) + (j : Int) := by omega
          have c4 : (start : Int) + (j : Int) ≤ (s.size : Int) := by omega
          have hnext : Lib.byteCells acc ++ Lib.strCells (s.extract start (start + j)) ++ Lib.strCells ⟨#[y]⟩ = Lib.byteCells (acc ++ (s.data.toList.drop start).take j ++ [y]) := by
            rw [Lib.strCells_eq, Lib.strCells_eq, Lib.extract_data, Nat.add_sub_cancel_left, ← Lib.byteCells_append, ← Lib.byteCells_append]
          have hlen2 : (acc ++ (s.data.toList.drop start).take j ++ [y]).length = start + (j + 1) := by
            rw [List.length_append, List.length_append, List.length_take, List.length_drop, hsl, hal]; simp; omega
          have hac2 : (acc ++ (s.data.toList.drop start).take j ++ [y]) ++ repL x y (s.data.toList.drop (start + (j + 1))) = repL x y s.data.toList := by
            rw [← hac, hrj]; simp only [List.append_assoc]
          have hix : Lib.indexB (s.extract start s.size) ⟨#[x]⟩ = (j : Int) := by
            show Lib.index (s.extract start s.size).data.toList [x] = _
            rw [Lib.extract_to_end]; exact hj
          have hes : (s.extract start (start + j)).size = j := by rw [ByteArray.size_extract]; omega
          have H1 := Lib.hid hB; have H2 := Lib.hid hW; have H3 := Lib.hid hnext; have H4 := Lib.hid hac2; have H5 := Lib.hid hcj; have H6 := Lib.hid hcn; have H7 := Lib.hid hlen2; have H8 := Lib.hid hcl; have H9 := Lib.hid hes
          clear hB hW hnext hac2 hcj hcn hlen2 hcl hac hj hrj hal hes
          go_wp2_with (first | (go_at_call 116; refine (split_index _ x _).mono ?_; rintro e w'' ⟨rfl, hw⟩; rw [hw, hix]))
          refine (Bld.writeString w'.heap.size w'.heap.size _ (s.extract start (start + j)) wr H1.out (by rw [H8.out, H9.out]; omega) hBw).mono ?_
          rintro e w3 ⟨rfl, h3, hb3, _⟩
          have hBw3 : w'.heap.size ≤ w3.heap.size := Nat.le_trans hBw hb3.size
          have H10 := Lib.hid h3
          have H11 := Lib.hid hb3
          clear h3 hb3
          go_wp2_with fail
          refine (Bld.writeString w'.heap.size w'.heap.size _ ⟨#[y]⟩ w3 H10.out (by rw [List.length_append, H8.out, Lib.strCells_length, H9.out]; show _ + 1 ≤ _; omega) hBw3).mono ?_
          rintro e w4 ⟨rfl, h4, hb4, _⟩
          rw [H3.out] at h4
          have H12 := Lib.hid h4
          have H13 := Lib.hid ((H2.out.trans H11.out).trans hb4)
          clear h4 hb4
          go_wp2
          exact ⟨⟨i + 1, start + (j + 1), _, rfl, by congr 1, by omega, by omega, by have := H5.out; have := H6.out; omega, H7.out, H4.out, H12.out, H13.out⟩, by simp [intOf]; omega⟩
        · have hge : decide (i < K) = false := decide_eq_false hit
          have hr0 : repL x y (s.data.toList.drop start) = s.data.toList.drop start := repL_none x y _ (count_notin x _ (by omega))
          rw [hr0] at hac
          have HA := Lib.hid hac; have H1 := Lib.hid hB; have H2 := Lib.hid hW; have H8 := Lib.hid hcl
          clear hac hB hW hcl hr0 hcn hal
          go_wp2_with fail
          refine (Bld.writeString w'.heap.size w'.heap.size _ _ wr H1.out (by rw [H8.out, ByteArray.size_extract]; omega) hBw).mono ?_
          rintro e w3 ⟨rfl, h3, hb3, _⟩
          rw [Lib.strCells_eq, Lib.extract_to_end, ← Lib.byteCells_append, HA.out] at h3
          have H3 := Lib.hid h3
          have Hb3 := Lib.hid (H2.out.trans hb3)
          have hBw3 : w'.heap.size ≤ w3.heap.size := Hb3.out.size
          clear h3 hb3
          go_wp2_with fail
          refine (Tryz.Builder_String_any w'.heap.size w'.heap.size _ w3 H3.out hBw3).mono ?_
          rintro e w5 ⟨rfl, hb5⟩
          have Hb5 := Lib.hid (Hb3.out.trans hb5)
          clear hb5
          go_wp2
          go_ret
          exact ⟨rfl, Hb5.out⟩
def strings_ReplaceAll.f (a0 a1 a2 : ByteArray) : Option ByteArray := if a1.size = 1 ∧ a2.size = 1 ∧ a0.size < 4294967281 then some ⟨(repL (a1.data.toList.headD 0) (a2.data.toList.headD 0) a0.data.toList).toArray⟩ else none
set_option maxHeartbeats 1000000 in
theorem strings_ReplaceAll.calls (a0 a1 a2 : ByteArray) (r1 : ByteArray) (w : World) (h : strings_ReplaceAll.f a0 a1 a2 = some r1) :
    Calls Tryz.prog 98 #[.string a0, .string a1, .string a2] w fun e w' => e = .returned (.string r1) ∧ Below w.heap.size w w' := by
  unfold strings_ReplaceAll.f at h
  split at h
  · rename_i hh
    obtain ⟨h1, h2, hs⟩ := hh
    obtain ⟨x, rfl⟩ := Lib.one_byte a1 h1
    obtain ⟨y, rfl⟩ := Lib.one_byte a2 h2
    obtain rfl := Option.some.inj h
    have HQ := Lib.hid (replace_one a0 x y w hs)
    go_enter Tryz.func98, Tryz.ntmps98
    go_wp2_with (go_at_call 132; refine (HQ.out).mono ?_; rintro e w' ⟨rfl, hb⟩)
    go_ret
    exact ⟨rfl, hb⟩
  · cases h
end Go.Proofs.YtmimipgmhgalaaaGreatDoor.PAll
end
section
namespace Go.Proofs.YtmimipgmhgalaaaGreatDoor.PAll
open Go.RowKit Go.Proofs.YtmimipgmhgalaaaGreatDoorW.PrintWords Go.Proofs.YtmimipgmhgalaaaGreatDoorW.PrintLast Go.Proofs.YtmimipgmhgalaaaGreatDoorW.PrintMore
attribute [local go_sem] max2_int min2_int max_two min_two max_three min_three max_four min_four
set_option linter.unusedVariables false
set_option linter.unusedSimpArgs false
def client_common.j0 : Nat → ByteArray → Bool → Option (ByteArray × Bool)
 | 0, _, _ => none
 | k + 1, x0, x15 => if x15 = true then (some ((⟨#[]⟩ : ByteArray), false)) else ((strings_TrimSuffix.f x0 (⟨#[61]⟩ : ByteArray)).bind fun t200 => ((strings_TrimSuffix.f t200 (⟨#[61]⟩ : ByteArray)).bind fun t201 => ((strings_ReplaceAll.f t201 (⟨#[43]⟩ : ByteArray) (⟨#[45]⟩ : ByteArray)).bind fun t202 => ((strings_ReplaceAll.f t202 (⟨#[47]⟩ : ByteArray) (⟨#[95]⟩ : ByteArray)).bind fun t203 => ((digest_FromBase64.f k t203).bind fun bt204 => (if bt204.2.1 = 0 then (some (strOfNums bt204.1, ((wrap64 ((wrap64 (Int.tdiv (wrap64 ((t203.size : Int) + 3)) 4)) * 4)) == (x0.size : Int)))) else (some (strOfNums bt204.1, false))))))))
def client_common.f (k : Nat) (a0 : ByteArray) : Option (ByteArray × Bool) := if ((a0.size : Int) % 4) = 0 then ((strings_ContainsAny.f a0 (⟨#[45, 95]⟩ : ByteArray)).bind fun t199 => (client_common.j0 k a0 t199)) else (client_common.j0 k a0 true)
set_option maxHeartbeats 8000000 in
set_option maxRecDepth 100000 in
theorem client_common.calls (k : Nat) (a0 : ByteArray) (r1 : ByteArray) (r2 : Bool) (w : World) (h : client_common.f k a0 = some (r1, r2)) :
 Calls Tryz.prog 63 #[.string a0] w fun e w' => e = .returned (.tuple #[.string r1, .bool r2]) ∧ Below w.heap.size w w' := by
 have HB := Aside0.mk (Below.refl w.heap.size w)
 have H : (if ((a0.size : Int) % 4) = 0 then ((strings_ContainsAny.f a0 (⟨#[45, 95]⟩ : ByteArray)).bind fun t199 => (client_common.j0 k a0 t199)) else (client_common.j0 k a0 true)) = some (r1, r2) := h
 clear h
 have HC2 := Aside0.mk H
 clear H
 go_enter Tryz.func63, Tryz.ntmps63
 go_upto_region 1 with (fail)
 go_cut [15] (fun v15 wc => ∃ (kq : Nat) (x15_1 : Bool), v15 = .bool x15_1 ∧ Aside0 (client_common.j0 kq a0 x15_1 = some (r1, r2)) ∧ Aside0 (kq ≤ k) ∧ Aside0 (Below w.heap.size w wc))
 case first =>
  have H := HC2.out
  clear HC2
  by_cases c3 : ((a0.size : Int) % 4) = 0
  · rw [if_pos c3] at H
    have c3b0 : (((a0.size : Int) % 4) == 0) = true := beq_iff_eq.mpr c3
    have c3b1 : (((a0.size : Int) % 4) != 0) = false := bne_eq_false_iff_eq.mpr c3
    clear c3
    replace H := Option.bind_eq_some_iff.mp H
    obtain ⟨t199, A40, H⟩ := H
    replace H : (client_common.j0 k a0 t199) = some (r1, r2) := H
    have A4 := Aside0.mk A40
    clear A40
    have H' := Aside0.mk H
    clear H
    go_wp2_with (first | (go_at_call 96; (with_reducible refine (strings_ContainsAny.calls a0 (⟨#[45, 95]⟩ : ByteArray) t199 _ A4.out).mono ?_); rintro e w5 ⟨rfl, hb⟩; replace HB := Aside0.mk (below_step HB.out hb); clear hb))
    go_meet
    case rel => exact ⟨_, (t199), rfl, H', ⟨by (omega)⟩, ⟨HB.out⟩⟩
  · rw [if_neg c3] at H
    have c3b0 : (((a0.size : Int) % 4) == 0) = false := beq_eq_false_iff_ne.mpr c3
    have c3b1 : (((a0.size : Int) % 4) != 0) = true := bne_iff_ne.mpr c3
    have H' := Aside0.mk H
    clear H
    go_wp2
    go_meet
    case rel => exact ⟨_, (true), rfl, H', ⟨by (omega)⟩, ⟨HB.out⟩⟩
 case rest =>
  clear HC2
  obtain ⟨kq, x15_1, rfl, HA, HJ1, HB⟩ := hcut
  cases kq with
  | zero => exact absurd HA.out (by simp [client_common.j0])
  | succ kj1 =>
   have H := HA.out
   clear HA
   simp only [client_common.j0] at H
   by_cases c6 : x15_1 = true
   · subst c6
     have H1 : (some ((⟨#[]⟩ : ByteArray), false)) = some (r1, r2) := by rw [if_pos rfl] at H; exact H
     clear H
     have H := H1
     clear H1
     simp only [Option.some.injEq, Prod.mk.injEq] at H
     obtain ⟨rfl, rfl⟩ := H
     go_wp2
     go_ret2
     exact ⟨by (rfl), by (with_reducible exact HB.out)⟩
   · replace c6 := Bool.eq_false_iff.mpr c6
     subst c6
     have H1 : ((strings_TrimSuffix.f a0 (⟨#[61]⟩ : ByteArray)).bind fun t200 => ((strings_TrimSuffix.f t200 (⟨#[61]⟩ : ByteArray)).bind fun t201 => ((strings_ReplaceAll.f t201 (⟨#[43]⟩ : ByteArray) (⟨#[45]⟩ : ByteArray)).bind fun t202 => ((strings_ReplaceAll.f t202 (⟨#[47]⟩ : ByteArray) (⟨#[95]⟩ : ByteArray)).bind fun t203 => ((digest_FromBase64.f kj1 t203).bind fun bt204 => (if bt204.2.1 = 0 then (some (strOfNums bt204.1, ((wrap64 ((wrap64 (Int.tdiv (wrap64 ((t203.size : Int) + 3)) 4)) * 4)) == (a0.size : Int)))) else (some (strOfNums bt204.1, false)))))))) = some (r1, r2) := by rw [if_neg (show ¬ (false = true) by decide)] at H; exact H
     clear H
     have H := H1
     clear H1
     replace H := Option.bind_eq_some_iff.mp H
     obtain ⟨t200, A70, H⟩ := H
     replace H : ((strings_TrimSuffix.f t200 (⟨#[61]⟩ : ByteArray)).bind fun t201 => ((strings_ReplaceAll.f t201 (⟨#[43]⟩ : ByteArray) (⟨#[45]⟩ : ByteArray)).bind fun t202 => ((strings_ReplaceAll.f t202 (⟨#[47]⟩ : ByteArray) (⟨#[95]⟩ : ByteArray)).bind fun t203 => ((digest_FromBase64.f kj1 t203).bind fun bt204 => (if bt204.2.1 = 0 then (some (strOfNums bt204.1, ((wrap64 ((wrap64 (Int.tdiv (wrap64 ((t203.size : Int) + 3)) 4)) * 4)) == (a0.size : Int)))) else (some (strOfNums bt204.1, false))))))) = some (r1, r2) := H
     have A7 := Aside0.mk A70
     clear A70
     replace H := Option.bind_eq_some_iff.mp H
     obtain ⟨t201, A80, H⟩ := H
     replace H : ((strings_ReplaceAll.f t201 (⟨#[43]⟩ : ByteArray) (⟨#[45]⟩ : ByteArray)).bind fun t202 => ((strings_ReplaceAll.f t202 (⟨#[47]⟩ : ByteArray) (⟨#[95]⟩ : ByteArray)).bind fun t203 => ((digest_FromBase64.f kj1 t203).bind fun bt204 => (if bt204.2.1 = 0 then (some (strOfNums bt204.1, ((wrap64 ((wrap64 (Int.tdiv (wrap64 ((t203.size : Int) + 3)) 4)) * 4)) == (a0.size : Int)))) else (some (strOfNums bt204.1, false)))))) = some (r1, r2) := H
     have A8 := Aside0.mk A80
     clear A80
     replace H := Option.bind_eq_some_iff.mp H
     obtain ⟨t202, A90, H⟩ := H
     replace H : ((strings_ReplaceAll.f t202 (⟨#[47]⟩ : ByteArray) (⟨#[95]⟩ : ByteArray)).bind fun t203 => ((digest_FromBase64.f kj1 t203).bind fun bt204 => (if bt204.2.1 = 0 then (some (strOfNums bt204.1, ((wrap64 ((wrap64 (Int.tdiv (wrap64 ((t203.size : Int) + 3)) 4)) * 4)) == (a0.size : Int)))) else (some (strOfNums bt204.1, false))))) = some (r1, r2) := H
     have A9 := Aside0.mk A90
     clear A90
     replace H := Option.bind_eq_some_iff.mp H
     obtain ⟨t203, A100, H⟩ := H
     replace H : ((digest_FromBase64.f kj1 t203).bind fun bt204 => (if bt204.2.1 = 0 then (some (strOfNums bt204.1, ((wrap64 ((wrap64 (Int.tdiv (wrap64 ((t203.size : Int) + 3)) 4)) * 4)) == (a0.size : Int)))) else (some (strOfNums bt204.1, false)))) = some (r1, r2) := H
     have A10 := Aside0.mk A100
     clear A100
     replace H := Option.bind_eq_some_iff.mp H
     obtain ⟨⟨t204, t205, t206⟩, A110, H⟩ := H
     replace H : (if t205 = 0 then (some (strOfNums t204, ((wrap64 ((wrap64 (Int.tdiv (wrap64 ((t203.size : Int) + 3)) 4)) * 4)) == (a0.size : Int)))) else (some (strOfNums t204, false))) = some (r1, r2) := H
     have A11 := Aside0.mk A110
     clear A110
     by_cases c12 : t205 = 0
     · rw [if_pos c12] at H
       have c12b0 : (t205 == 0) = true := beq_iff_eq.mpr c12
       have c12b1 : (t205 != 0) = false := bne_eq_false_iff_eq.mpr c12
       clear c12
       simp only [Option.some.injEq, Prod.mk.injEq] at H
       obtain ⟨rfl, rfl⟩ := H
       go_wp2_with (first | ((with_reducible refine gate_callee (f := 97) rfl ?_); refine goesL_ (some 17) rfl rfl Tryz.func97 (by kernel_rfl) rfl #[.string a0, .string (⟨#[61]⟩ : ByteArray)] rfl (by ((try simp only [List.map_toArray, List.map_cons, List.map_nil]); (rfl))) ?_; (with_reducible refine (strings_TrimSuffix.calls a0 (⟨#[61]⟩ : ByteArray) t200 _ A7.out).mono ?_); rintro e w13 ⟨rfl, hb⟩; refine ⟨_, rfl, ?_⟩; replace HB := Aside0.mk (below_step HB.out hb); clear hb) | ((with_reducible refine gate_callee (f := 97) rfl ?_); refine goesL_ (some 18) rfl rfl Tryz.func97 (by kernel_rfl) rfl #[.string t200, .string (⟨#[61]⟩ : ByteArray)] rfl (by ((try simp only [List.map_toArray, List.map_cons, List.map_nil]); (rfl))) ?_; (with_reducible refine (strings_TrimSuffix.calls t200 (⟨#[61]⟩ : ByteArray) t201 _ A8.out).mono ?_); rintro e w14 ⟨rfl, hb⟩; refine ⟨_, rfl, ?_⟩; replace HB := Aside0.mk (below_step HB.out hb); clear hb) | ((with_reducible refine gate_callee (f := 98) rfl ?_); refine goesL_ (some 20) rfl rfl Tryz.func98 (by kernel_rfl) rfl #[.string t201, .string (⟨#[43]⟩ : ByteArray), .string (⟨#[45]⟩ : ByteArray)] rfl (by ((try simp only [List.map_toArray, List.map_cons, List.map_nil]); (rfl))) ?_; (with_reducible refine (strings_ReplaceAll.calls t201 (⟨#[43]⟩ : ByteArray) (⟨#[45]⟩ : ByteArray) t202 _ A9.out).mono ?_); rintro e w15 ⟨rfl, hb⟩; refine ⟨_, rfl, ?_⟩; replace HB := Aside0.mk (below_step HB.out hb); clear hb) | ((with_reducible refine gate_callee (f := 98) rfl ?_); refine goesL_ (some 21) rfl rfl Tryz.func98 (by kernel_rfl) rfl #[.string t202, .string (⟨#[47]⟩ : ByteArray), .string (⟨#[95]⟩ : ByteArray)] rfl (by ((try simp only [List.map_toArray, List.map_cons, List.map_nil]); (rfl))) ?_; (with_reducible refine (strings_ReplaceAll.calls t202 (⟨#[47]⟩ : ByteArray) (⟨#[95]⟩ : ByteArray) t203 _ A10.out).mono ?_); rintro e w16 ⟨rfl, hb⟩; refine ⟨_, rfl, ?_⟩; replace HB := Aside0.mk (below_step HB.out hb); clear hb) | ((with_reducible refine gate_callee (f := 99) rfl ?_); refine goesL_ (some 24) rfl rfl Tryz.func99 (by kernel_rfl) rfl #[.string t203] rfl (by ((try simp only [List.map_toArray, List.map_cons, List.map_nil]); (rfl))) ?_; (with_reducible refine (digest_FromBase64.calls kj1 t203 t204 t205 t206 _ A11.out).mono ?_); rintro e w17 ⟨v207, rfl, ho0, hb⟩; refine ⟨_, rfl, ?_⟩; have HO208 := Aside0.mk (Kd.R_lower ho0 (below_size HB.out)); replace HB := Aside0.mk (below_step HB.out hb); clear hb ho0; have hcv18 := own_string (P := Tryz.prog) Tryz.underlying79 Tryz.underlying5 Tryz.underlying9 (Kd.own_of_R HO208.out)))
       go_ret2
       exact ⟨by (rfl), by (with_reducible exact HB.out)⟩
     · rw [if_neg c12] at H
       have c12b0 : (t205 == 0) = false := beq_eq_false_iff_ne.mpr c12
       have c12b1 : (t205 != 0) = true := bne_iff_ne.mpr c12
       simp only [Option.some.injEq, Prod.mk.injEq] at H
       obtain ⟨rfl, rfl⟩ := H
       go_wp2_with (first | ((with_reducible refine gate_callee (f := 97) rfl ?_); refine goesL_ (some 17) rfl rfl Tryz.func97 (by kernel_rfl) rfl #[.string a0, .string (⟨#[61]⟩ : ByteArray)] rfl (by ((try simp only [List.map_toArray, List.map_cons, List.map_nil]); (rfl))) ?_; (with_reducible refine (strings_TrimSuffix.calls a0 (⟨#[61]⟩ : ByteArray) t200 _ A7.out).mono ?_); rintro e w19 ⟨rfl, hb⟩; refine ⟨_, rfl, ?_⟩; replace HB := Aside0.mk (below_step HB.out hb); clear hb) | ((with_reducible refine gate_callee (f := 97) rfl ?_); refine goesL_ (some 18) rfl rfl Tryz.func97 (by kernel_rfl) rfl #[.string t200, .string (⟨#[61]⟩ : ByteArray)] rfl (by ((try simp only [List.map_toArray, List.map_cons, List.map_nil]); (rfl))) ?_; (with_reducible refine (strings_TrimSuffix.calls t200 (⟨#[61]⟩ : ByteArray) t201 _ A8.out).mono ?_); rintro e w20 ⟨rfl, hb⟩; refine ⟨_, rfl, ?_⟩; replace HB := Aside0.mk (below_step HB.out hb); clear hb) | ((with_reducible refine gate_callee (f := 98) rfl ?_); refine goesL_ (some 20) rfl rfl Tryz.func98 (by kernel_rfl) rfl #[.string t201, .string (⟨#[43]⟩ : ByteArray), .string (⟨#[45]⟩ : ByteArray)] rfl (by ((try simp only [List.map_toArray, List.map_cons, List.map_nil]); (rfl))) ?_; (with_reducible refine (strings_ReplaceAll.calls t201 (⟨#[43]⟩ : ByteArray) (⟨#[45]⟩ : ByteArray) t202 _ A9.out).mono ?_); rintro e w21 ⟨rfl, hb⟩; refine ⟨_, rfl, ?_⟩; replace HB := Aside0.mk (below_step HB.out hb); clear hb) | ((with_reducible refine gate_callee (f := 98) rfl ?_); refine goesL_ (some 21) rfl rfl Tryz.func98 (by kernel_rfl) rfl #[.string t202, .string (⟨#[47]⟩ : ByteArray), .string (⟨#[95]⟩ : ByteArray)] rfl (by ((try simp only [List.map_toArray, List.map_cons, List.map_nil]); (rfl))) ?_; (with_reducible refine (strings_ReplaceAll.calls t202 (⟨#[47]⟩ : ByteArray) (⟨#[95]⟩ : ByteArray) t203 _ A10.out).mono ?_); rintro e w22 ⟨rfl, hb⟩; refine ⟨_, rfl, ?_⟩; replace HB := Aside0.mk (below_step HB.out hb); clear hb) | ((with_reducible refine gate_callee (f := 99) rfl ?_); refine goesL_ (some 24) rfl rfl Tryz.func99 (by kernel_rfl) rfl #[.string t203] rfl (by ((try simp only [List.map_toArray, List.map_cons, List.map_nil]); (rfl))) ?_; (with_reducible refine (digest_FromBase64.calls kj1 t203 t204 t205 t206 _ A11.out).mono ?_); rintro e w23 ⟨v207, rfl, ho0, hb⟩; refine ⟨_, rfl, ?_⟩; have HO208 := Aside0.mk (Kd.R_lower ho0 (below_size HB.out)); replace HB := Aside0.mk (below_step HB.out hb); clear hb ho0; have hcv24 := own_string (P := Tryz.prog) Tryz.underlying79 Tryz.underlying5 Tryz.underlying9 (Kd.own_of_R HO208.out)))
       go_ret2
       exact ⟨by (rfl), by (with_reducible exact HB.out)⟩
def client_Basic.j0 : Nat → ByteArray → Bool → Option (ByteArray × ByteArray × Int)
 | 0, _, _ => none
 | k + 1, x0, x34 => if x34 = true then (some ((⟨#[]⟩ : ByteArray), (⟨#[]⟩ : ByteArray), 113)) else (if 5 ≤ (x0.size : Int) then ((strings_TrimLeft.f (x0.extract 5 x0.size) (⟨#[32]⟩ : ByteArray)).bind fun t210 => ((client_common.f k t210).bind fun bt211 => ((strings_Cut.f bt211.1 (⟨#[58]⟩ : ByteArray)).bind fun bt213 => ((urlform_Unescape.f bt213.1).bind fun bt216 => ((urlform_Unescape.f bt213.2.1).bind fun bt219 => (if bt211.2 = true then (if bt213.2.2 = true then (if bt216.2.1 = 0 then (if bt219.2.1 = 0 then (some (bt216.1, bt219.1, 0)) else (some ((⟨#[]⟩ : ByteArray), (⟨#[]⟩ : ByteArray), 113))) else (some ((⟨#[]⟩ : ByteArray), (⟨#[]⟩ : ByteArray), 113))) else (some ((⟨#[]⟩ : ByteArray), (⟨#[]⟩ : ByteArray), 113))) else (some ((⟨#[]⟩ : ByteArray), (⟨#[]⟩ : ByteArray), 113)))))))) else (none))
def client_Basic.f (k : Nat) (a0 : ByteArray) : Option (ByteArray × ByteArray × Int) := if (a0.size : Int) > 1024 then (client_Basic.j0 k a0 true) else (if (a0.size : Int) < 6 then (client_Basic.j0 k a0 true) else (if 0 ≤ 5 then (if 5 ≤ (a0.size : Int) then ((strings_EqualFold.f (a0.extract 0 5) (⟨#[98, 97, 115, 105, 99]⟩ : ByteArray)).bind fun t209 => (if t209 = true then (if 5 < (a0.size : Int) then (client_Basic.j0 k a0 ((bt a0 5) != 32)) else (none)) else (client_Basic.j0 k a0 true))) else (none)) else (none)))
set_option maxHeartbeats 8000000 in
set_option maxRecDepth 100000 in
theorem client_Basic.calls (k : Nat) (a0 : ByteArray) (r1 : ByteArray) (r2 : ByteArray) (r3 : Int) (w : World) (h : client_Basic.f k a0 = some (r1, r2, r3)) :
 Calls Tryz.prog 32 #[.string a0] w fun e w' => e = .returned (.tuple #[.string r1, .string r2, .int .i64 r3]) ∧ Below w.heap.size w w' := by
 have HB := Aside0.mk (Below.refl w.heap.size w)
 have H : (if (a0.size : Int) > 1024 then (client_Basic.j0 k a0 true) else (if (a0.size : Int) < 6 then (client_Basic.j0 k a0 true) else (if 0 ≤ 5 then (if 5 ≤ (a0.size : Int) then ((strings_EqualFold.f (a0.extract 0 5) (⟨#[98, 97, 115, 105, 99]⟩ : ByteArray)).bind fun t209 => (if t209 = true then (if 5 < (a0.size : Int) then (client_Basic.j0 k a0 ((bt a0 5) != 32)) else (none)) else (client_Basic.j0 k a0 true))) else (none)) else (none)))) = some (r1, r2, r3) := h
 clear h
 have HC2 := Aside0.mk H
 clear H
 go_enter Tryz.func32, Tryz.ntmps32
 go_upto_region 1 with (fail)
 go_cut [34] (fun v34 wc => ∃ (kq : Nat) (x34_1 : Bool), v34 = .bool x34_1 ∧ Aside0 (client_Basic.j0 kq a0 x34_1 = some (r1, r2, r3)) ∧ Aside0 (kq ≤ k) ∧ Aside0 (Below w.heap.size w wc))
 case first =>
  have H := HC2.out
  clear HC2
  by_cases c3 : (a0.size : Int) > 1024
  · rw [if_pos c3] at H
    have c3b0 : decide (1024 < (a0.size : Int)) = true := decide_eq_true c3
    have c3b1 : decide (1024 < a0.size) = true := decide_eq_true (by omega)
    clear c3
    have H' := Aside0.mk H
    clear H
    go_wp2
    go_meet
    case rel => exact ⟨_, (true), rfl, H', ⟨by (omega)⟩, ⟨HB.out⟩⟩
  · rw [if_neg c3] at H
    have c3b0 : decide (1024 < (a0.size : Int)) = false := decide_eq_false c3
    have c3b1 : decide (1024 < a0.size) = false := decide_eq_false (by omega)
    clear c3
    by_cases c4 : (a0.size : Int) < 6
    · rw [if_pos c4] at H
      have c4b0 : decide ((a0.size : Int) < 6) = true := decide_eq_true c4
      have c4b1 : decide (a0.size < 6) = true := decide_eq_true (by omega)
      clear c4
      have H' := Aside0.mk H
      clear H
      go_wp2
      go_meet
      case rel => exact ⟨_, (true), rfl, H', ⟨by (omega)⟩, ⟨HB.out⟩⟩
    · rw [if_neg c4] at H
      have c4b0 : decide ((a0.size : Int) < 6) = false := decide_eq_false c4
      have c4b1 : decide (a0.size < 6) = false := decide_eq_false (by omega)
      clear c4
      by_cases c5 : 0 ≤ 5
      · rw [if_pos c5] at H
        have c5b0 := eq_true c5
        have c5b1 : decide (0 ≤ 5) = true := decide_eq_true c5
        clear c5
        by_cases c6 : 5 ≤ (a0.size : Int)
        · rw [if_pos c6] at H
          have c6b0 := eq_true c6
          have c6b1 : decide (5 ≤ (a0.size : Int)) = true := decide_eq_true c6
          clear c6
          replace H := Option.bind_eq_some_iff.mp H
          obtain ⟨t209, A70, H⟩ := H
          replace H : (if t209 = true then (if 5 < (a0.size : Int) then (client_Basic.j0 k a0 ((bt a0 5) != 32)) else (none)) else (client_Basic.j0 k a0 true)) = some (r1, r2, r3) := H
          have A7 := Aside0.mk A70
          clear A70
          by_cases c8 : t209 = true
          · subst c8
            have H1 : (if 5 < (a0.size : Int) then (client_Basic.j0 k a0 ((bt a0 5) != 32)) else (none)) = some (r1, r2, r3) := by rw [if_pos rfl] at H; exact H
            clear H
            have H := H1
            clear H1
            by_cases c9 : 5 < (a0.size : Int)
            · rw [if_pos c9] at H
              have c9b0 : decide (5 < (a0.size : Int)) = true := decide_eq_true c9
              have c9b1 : decide (5 < a0.size) = true := decide_eq_true (by omega)
              clear c9
              have H' := Aside0.mk H
              clear H
              go_wp2_with (first | (go_at_call 62; (with_reducible refine (strings_EqualFold.calls (a0.extract 0 5) (⟨#[98, 97, 115, 105, 99]⟩ : ByteArray) true _ A7.out).mono ?_); rintro e w11 ⟨rfl, hb⟩; replace HB := Aside0.mk (below_step HB.out hb); clear hb; have p10 : 0 ≤ (5 : Int) := (by omega); have q10 : 5 < a0.size := (by have : (5 : Int) < (a0.size : Int) := of_decide_eq_true (by assumption); omega); have hx10 : ∀ h : 5 < a0.size, ((a0[5]'h).toNat : Int) = bt a0 5 := bt_at a0 5; clear p10; have qi10 : (5 < (a0.size : Int)) = True := eq_true (of_decide_eq_true (by assumption)); replace q10 := eq_true q10))
              go_meet
              case rel => exact ⟨_, (((bt a0 5) != 32)), rfl, H', ⟨by (omega)⟩, ⟨HB.out⟩⟩
            · rw [if_neg c9] at H
              exact absurd H (by simp)
          · replace c8 := Bool.eq_false_iff.mpr c8
            subst c8
            have H1 : (client_Basic.j0 k a0 true) = some (r1, r2, r3) := by rw [if_neg (show ¬ (false = true) by decide)] at H; exact H
            clear H
            have H := H1
            clear H1
            have H' := Aside0.mk H
            clear H
            go_wp2_with (first | (go_at_call 62; (with_reducible refine (strings_EqualFold.calls (a0.extract 0 5) (⟨#[98, 97, 115, 105, 99]⟩ : ByteArray) false _ A7.out).mono ?_); rintro e w12 ⟨rfl, hb⟩; replace HB := Aside0.mk (below_step HB.out hb); clear hb))
            go_meet
            case rel => exact ⟨_, (true), rfl, H', ⟨by (omega)⟩, ⟨HB.out⟩⟩
        · rw [if_neg c6] at H
          exact absurd H (by simp)
      · rw [if_neg c5] at H
        exact absurd H (by simp)
 case rest =>
  clear HC2
  obtain ⟨kq, x34_1, rfl, HA, HJ1, HB⟩ := hcut
  cases kq with
  | zero => exact absurd HA.out (by simp [client_Basic.j0])
  | succ kj1 =>
   have H := HA.out
   clear HA
   simp only [client_Basic.j0] at H
   by_cases c13 : x34_1 = true
   · subst c13
     have H1 : (some ((⟨#[]⟩ : ByteArray), (⟨#[]⟩ : ByteArray), 113)) = some (r1, r2, r3) := by rw [if_pos rfl] at H; exact H
     clear H
     have H := H1
     clear H1
     simp only [Option.some.injEq, Prod.mk.injEq] at H
     obtain ⟨rfl, rfl, rfl⟩ := H
     go_wp2
     go_ret3
     exact ⟨by (rfl), by (with_reducible exact HB.out)⟩
   · replace c13 := Bool.eq_false_iff.mpr c13
     subst c13
     have H1 : (if 5 ≤ (a0.size : Int) then ((strings_TrimLeft.f (a0.extract 5 a0.size) (⟨#[32]⟩ : ByteArray)).bind fun t210 => ((client_common.f kj1 t210).bind fun bt211 => ((strings_Cut.f bt211.1 (⟨#[58]⟩ : ByteArray)).bind fun bt213 => ((urlform_Unescape.f bt213.1).bind fun bt216 => ((urlform_Unescape.f bt213.2.1).bind fun bt219 => (if bt211.2 = true then (if bt213.2.2 = true then (if bt216.2.1 = 0 then (if bt219.2.1 = 0 then (some (bt216.1, bt219.1, 0)) else (some ((⟨#[]⟩ : ByteArray), (⟨#[]⟩ : ByteArray), 113))) else (some ((⟨#[]⟩ : ByteArray), (⟨#[]⟩ : ByteArray), 113))) else (some ((⟨#[]⟩ : ByteArray), (⟨#[]⟩ : ByteArray), 113))) else (some ((⟨#[]⟩ : ByteArray), (⟨#[]⟩ : ByteArray), 113)))))))) else (none)) = some (r1, r2, r3) := by rw [if_neg (show ¬ (false = true) by decide)] at H; exact H
     clear H
     have H := H1
     clear H1
     by_cases c14 : 5 ≤ (a0.size : Int)
     · rw [if_pos c14] at H
       have c14b0 := eq_true c14
       have c14b1 : decide (5 ≤ (a0.size : Int)) = true := decide_eq_true c14
       clear c14
       replace H := Option.bind_eq_some_iff.mp H
       obtain ⟨t210, A150, H⟩ := H
       replace H : ((client_common.f kj1 t210).bind fun bt211 => ((strings_Cut.f bt211.1 (⟨#[58]⟩ : ByteArray)).bind fun bt213 => ((urlform_Unescape.f bt213.1).bind fun bt216 => ((urlform_Unescape.f bt213.2.1).bind fun bt219 => (if bt211.2 = true then (if bt213.2.2 = true then (if bt216.2.1 = 0 then (if bt219.2.1 = 0 then (some (bt216.1, bt219.1, 0)) else (some ((⟨#[]⟩ : ByteArray), (⟨#[]⟩ : ByteArray), 113))) else (some ((⟨#[]⟩ : ByteArray), (⟨#[]⟩ : ByteArray), 113))) else (some ((⟨#[]⟩ : ByteArray), (⟨#[]⟩ : ByteArray), 113))) else (some ((⟨#[]⟩ : ByteArray), (⟨#[]⟩ : ByteArray), 113))))))) = some (r1, r2, r3) := H
       have A15 := Aside0.mk A150
       clear A150
       replace H := Option.bind_eq_some_iff.mp H
       obtain ⟨⟨t211, t212⟩, A160, H⟩ := H
       replace H : ((strings_Cut.f t211 (⟨#[58]⟩ : ByteArray)).bind fun bt213 => ((urlform_Unescape.f bt213.1).bind fun bt216 => ((urlform_Unescape.f bt213.2.1).bind fun bt219 => (if t212 = true then (if bt213.2.2 = true then (if bt216.2.1 = 0 then (if bt219.2.1 = 0 then (some (bt216.1, bt219.1, 0)) else (some ((⟨#[]⟩ : ByteArray), (⟨#[]⟩ : ByteArray), 113))) else (some ((⟨#[]⟩ : ByteArray), (⟨#[]⟩ : ByteArray), 113))) else (some ((⟨#[]⟩ : ByteArray), (⟨#[]⟩ : ByteArray), 113))) else (some ((⟨#[]⟩ : ByteArray), (⟨#[]⟩ : ByteArray), 113)))))) = some (r1, r2, r3) := H
       have A16 := Aside0.mk A160
       clear A160
       replace H := Option.bind_eq_some_iff.mp H
       obtain ⟨⟨t213, t214, t215⟩, A170, H⟩ := H
       replace H : ((urlform_Unescape.f t213).bind fun bt216 => ((urlform_Unescape.f t214).bind fun bt219 => (if t212 = true then (if t215 = true then (if bt216.2.1 = 0 then (if bt219.2.1 = 0 then (some (bt216.1, bt219.1, 0)) else (some ((⟨#[]⟩ : ByteArray), (⟨#[]⟩ : ByteArray), 113))) else (some ((⟨#[]⟩ : ByteArray), (⟨#[]⟩ : ByteArray), 113))) else (some ((⟨#[]⟩ : ByteArray), (⟨#[]⟩ : ByteArray), 113))) else (some ((⟨#[]⟩ : ByteArray), (⟨#[]⟩ : ByteArray), 113))))) = some (r1, r2, r3) := H
       have A17 := Aside0.mk A170
       clear A170
       replace H := Option.bind_eq_some_iff.mp H
       obtain ⟨⟨t216, t217, t218⟩, A180, H⟩ := H
       replace H : ((urlform_Unescape.f t214).bind fun bt219 => (if t212 = true then (if t215 = true then (if t217 = 0 then (if bt219.2.1 = 0 then (some (t216, bt219.1, 0)) else (some ((⟨#[]⟩ : ByteArray), (⟨#[]⟩ : ByteArray), 113))) else (some ((⟨#[]⟩ : ByteArray), (⟨#[]⟩ : ByteArray), 113))) else (some ((⟨#[]⟩ : ByteArray), (⟨#[]⟩ : ByteArray), 113))) else (some ((⟨#[]⟩ : ByteArray), (⟨#[]⟩ : ByteArray), 113)))) = some (r1, r2, r3) := H
       have A18 := Aside0.mk A180
       clear A180
       replace H := Option.bind_eq_some_iff.mp H
       obtain ⟨⟨t219, t220, t221⟩, A190, H⟩ := H
       replace H : (if t212 = true then (if t215 = true then (if t217 = 0 then (if t220 = 0 then (some (t216, t219, 0)) else (some ((⟨#[]⟩ : ByteArray), (⟨#[]⟩ : ByteArray), 113))) else (some ((⟨#[]⟩ : ByteArray), (⟨#[]⟩ : ByteArray), 113))) else (some ((⟨#[]⟩ : ByteArray), (⟨#[]⟩ : ByteArray), 113))) else (some ((⟨#[]⟩ : ByteArray), (⟨#[]⟩ : ByteArray), 113))) = some (r1, r2, r3) := H
       have A19 := Aside0.mk A190
       clear A190
       by_cases c20 : t212 = true
       · subst c20
         have H1 : (if t215 = true then (if t217 = 0 then (if t220 = 0 then (some (t216, t219, 0)) else (some ((⟨#[]⟩ : ByteArray), (⟨#[]⟩ : ByteArray), 113))) else (some ((⟨#[]⟩ : ByteArray), (⟨#[]⟩ : ByteArray), 113))) else (some ((⟨#[]⟩ : ByteArray), (⟨#[]⟩ : ByteArray), 113))) = some (r1, r2, r3) := by rw [if_pos rfl] at H; exact H
         clear H
         have H := H1
         clear H1
         by_cases c21 : t215 = true
         · subst c21
           have H1 : (if t217 = 0 then (if t220 = 0 then (some (t216, t219, 0)) else (some ((⟨#[]⟩ : ByteArray), (⟨#[]⟩ : ByteArray), 113))) else (some ((⟨#[]⟩ : ByteArray), (⟨#[]⟩ : ByteArray), 113))) = some (r1, r2, r3) := by rw [if_pos rfl] at H; exact H
           clear H
           have H := H1
           clear H1
           by_cases c22 : t217 = 0
           · rw [if_pos c22] at H
             have c22b0 : (t217 == 0) = true := beq_iff_eq.mpr c22
             have c22b1 : (t217 != 0) = false := bne_eq_false_iff_eq.mpr c22
             clear c22
             by_cases c23 : t220 = 0
             · rw [if_pos c23] at H
               have c23b0 : (t220 == 0) = true := beq_iff_eq.mpr c23
               have c23b1 : (t220 != 0) = false := bne_eq_false_iff_eq.mpr c23
               clear c23
               simp only [Option.some.injEq, Prod.mk.injEq] at H
               obtain ⟨rfl, rfl, rfl⟩ := H
               go_wp2_with (first | ((with_reducible refine gate_callee (f := 64) rfl ?_); refine goesL_ (some 38) rfl rfl Tryz.func64 (by kernel_rfl) rfl #[.string (a0.extract 5 a0.size), .string (⟨#[32]⟩ : ByteArray)] rfl (by ((try simp only [List.map_toArray, List.map_cons, List.map_nil]); (rfl))) ?_; (with_reducible refine (strings_TrimLeft.calls (a0.extract 5 a0.size) (⟨#[32]⟩ : ByteArray) t210 _ A15.out).mono ?_); rintro e w24 ⟨rfl, hb⟩; refine ⟨_, rfl, ?_⟩; replace HB := Aside0.mk (below_step HB.out hb); clear hb) | ((with_reducible refine gate_callee (f := 63) rfl ?_); refine goesL_ (some 39) rfl rfl Tryz.func63 (by kernel_rfl) rfl #[.string t210] rfl (by ((try simp only [List.map_toArray, List.map_cons, List.map_nil]); (rfl))) ?_; (with_reducible refine (client_common.calls kj1 t210 t211 true _ A16.out).mono ?_); rintro e w25 ⟨rfl, hb⟩; refine ⟨_, rfl, ?_⟩; replace HB := Aside0.mk (below_step HB.out hb); clear hb) | ((with_reducible refine gate_callee (f := 65) rfl ?_); refine goesL_ (some 44) rfl rfl Tryz.func65 (by kernel_rfl) rfl #[.string t211, .string (⟨#[58]⟩ : ByteArray)] rfl (by ((try simp only [List.map_toArray, List.map_cons, List.map_nil]); (rfl))) ?_; (with_reducible refine (strings_Cut.calls t211 (⟨#[58]⟩ : ByteArray) t213 t214 true _ A17.out).mono ?_); rintro e w26 ⟨rfl, hb⟩; refine ⟨_, rfl, ?_⟩; replace HB := Aside0.mk (below_step HB.out hb); clear hb) | ((with_reducible refine gate_callee (f := 66) rfl ?_); refine goesL_ (some 50) rfl rfl Tryz.func66 (by kernel_rfl) rfl #[.string t213] rfl (by ((try simp only [List.map_toArray, List.map_cons, List.map_nil]); (rfl))) ?_; (with_reducible refine (urlform_Unescape.calls t213 t216 t217 t218 _ A18.out).mono ?_); rintro e w27 ⟨rfl, hb⟩; refine ⟨_, rfl, ?_⟩; replace HB := Aside0.mk (below_step HB.out hb); clear hb) | ((with_reducible refine gate_callee (f := 66) rfl ?_); refine goesL_ (some 56) rfl rfl Tryz.func66 (by kernel_rfl) rfl #[.string t214] rfl (by ((try simp only [List.map_toArray, List.map_cons, List.map_nil]); (rfl))) ?_; (with_reducible refine (urlform_Unescape.calls t214 t219 t220 t221 _ A19.out).mono ?_); rintro e w28 ⟨rfl, hb⟩; refine ⟨_, rfl, ?_⟩; replace HB := Aside0.mk (below_step HB.out hb); clear hb))
               go_ret3
               exact ⟨by (rfl), by (with_reducible exact HB.out)⟩
             · rw [if_neg c23] at H
               have c23b0 : (t220 == 0) = false := beq_eq_false_iff_ne.mpr c23
               have c23b1 : (t220 != 0) = true := bne_iff_ne.mpr c23
               simp only [Option.some.injEq, Prod.mk.injEq] at H
               obtain ⟨rfl, rfl, rfl⟩ := H
               go_wp2_with (first | ((with_reducible refine gate_callee (f := 64) rfl ?_); refine goesL_ (some 38) rfl rfl Tryz.func64 (by kernel_rfl) rfl #[.string (a0.extract 5 a0.size), .string (⟨#[32]⟩ : ByteArray)] rfl (by ((try simp only [List.map_toArray, List.map_cons, List.map_nil]); (rfl))) ?_; (with_reducible refine (strings_TrimLeft.calls (a0.extract 5 a0.size) (⟨#[32]⟩ : ByteArray) t210 _ A15.out).mono ?_); rintro e w29 ⟨rfl, hb⟩; refine ⟨_, rfl, ?_⟩; replace HB := Aside0.mk (below_step HB.out hb); clear hb) | ((with_reducible refine gate_callee (f := 63) rfl ?_); refine goesL_ (some 39) rfl rfl Tryz.func63 (by kernel_rfl) rfl #[.string t210] rfl (by ((try simp only [List.map_toArray, List.map_cons, List.map_nil]); (rfl))) ?_; (with_reducible refine (client_common.calls kj1 t210 t211 true _ A16.out).mono ?_); rintro e w30 ⟨rfl, hb⟩; refine ⟨_, rfl, ?_⟩; replace HB := Aside0.mk (below_step HB.out hb); clear hb) | ((with_reducible refine gate_callee (f := 65) rfl ?_); refine goesL_ (some 44) rfl rfl Tryz.func65 (by kernel_rfl) rfl #[.string t211, .string (⟨#[58]⟩ : ByteArray)] rfl (by ((try simp only [List.map_toArray, List.map_cons, List.map_nil]); (rfl))) ?_; (with_reducible refine (strings_Cut.calls t211 (⟨#[58]⟩ : ByteArray) t213 t214 true _ A17.out).mono ?_); rintro e w31 ⟨rfl, hb⟩; refine ⟨_, rfl, ?_⟩; replace HB := Aside0.mk (below_step HB.out hb); clear hb) | ((with_reducible refine gate_callee (f := 66) rfl ?_); refine goesL_ (some 50) rfl rfl Tryz.func66 (by kernel_rfl) rfl #[.string t213] rfl (by ((try simp only [List.map_toArray, List.map_cons, List.map_nil]); (rfl))) ?_; (with_reducible refine (urlform_Unescape.calls t213 t216 t217 t218 _ A18.out).mono ?_); rintro e w32 ⟨rfl, hb⟩; refine ⟨_, rfl, ?_⟩; replace HB := Aside0.mk (below_step HB.out hb); clear hb) | ((with_reducible refine gate_callee (f := 66) rfl ?_); refine goesL_ (some 56) rfl rfl Tryz.func66 (by kernel_rfl) rfl #[.string t214] rfl (by ((try simp only [List.map_toArray, List.map_cons, List.map_nil]); (rfl))) ?_; (with_reducible refine (urlform_Unescape.calls t214 t219 t220 t221 _ A19.out).mono ?_); rintro e w33 ⟨rfl, hb⟩; refine ⟨_, rfl, ?_⟩; replace HB := Aside0.mk (below_step HB.out hb); clear hb))
               go_ret3
               exact ⟨by (rfl), by (with_reducible exact HB.out)⟩
           · rw [if_neg c22] at H
             have c22b0 : (t217 == 0) = false := beq_eq_false_iff_ne.mpr c22
             have c22b1 : (t217 != 0) = true := bne_iff_ne.mpr c22
             simp only [Option.some.injEq, Prod.mk.injEq] at H
             obtain ⟨rfl, rfl, rfl⟩ := H
             go_wp2_with (first | ((with_reducible refine gate_callee (f := 64) rfl ?_); refine goesL_ (some 38) rfl rfl Tryz.func64 (by kernel_rfl) rfl #[.string (a0.extract 5 a0.size), .string (⟨#[32]⟩ : ByteArray)] rfl (by ((try simp only [List.map_toArray, List.map_cons, List.map_nil]); (rfl))) ?_; (with_reducible refine (strings_TrimLeft.calls (a0.extract 5 a0.size) (⟨#[32]⟩ : ByteArray) t210 _ A15.out).mono ?_); rintro e w34 ⟨rfl, hb⟩; refine ⟨_, rfl, ?_⟩; replace HB := Aside0.mk (below_step HB.out hb); clear hb) | ((with_reducible refine gate_callee (f := 63) rfl ?_); refine goesL_ (some 39) rfl rfl Tryz.func63 (by kernel_rfl) rfl #[.string t210] rfl (by ((try simp only [List.map_toArray, List.map_cons, List.map_nil]); (rfl))) ?_; (with_reducible refine (client_common.calls kj1 t210 t211 true _ A16.out).mono ?_); rintro e w35 ⟨rfl, hb⟩; refine ⟨_, rfl, ?_⟩; replace HB := Aside0.mk (below_step HB.out hb); clear hb) | ((with_reducible refine gate_callee (f := 65) rfl ?_); refine goesL_ (some 44) rfl rfl Tryz.func65 (by kernel_rfl) rfl #[.string t211, .string (⟨#[58]⟩ : ByteArray)] rfl (by ((try simp only [List.map_toArray, List.map_cons, List.map_nil]); (rfl))) ?_; (with_reducible refine (strings_Cut.calls t211 (⟨#[58]⟩ : ByteArray) t213 t214 true _ A17.out).mono ?_); rintro e w36 ⟨rfl, hb⟩; refine ⟨_, rfl, ?_⟩; replace HB := Aside0.mk (below_step HB.out hb); clear hb) | ((with_reducible refine gate_callee (f := 66) rfl ?_); refine goesL_ (some 50) rfl rfl Tryz.func66 (by kernel_rfl) rfl #[.string t213] rfl (by ((try simp only [List.map_toArray, List.map_cons, List.map_nil]); (rfl))) ?_; (with_reducible refine (urlform_Unescape.calls t213 t216 t217 t218 _ A18.out).mono ?_); rintro e w37 ⟨rfl, hb⟩; refine ⟨_, rfl, ?_⟩; replace HB := Aside0.mk (below_step HB.out hb); clear hb) | ((with_reducible refine gate_callee (f := 66) rfl ?_); refine goesL_ (some 56) rfl rfl Tryz.func66 (by kernel_rfl) rfl #[.string t214] rfl (by ((try simp only [List.map_toArray, List.map_cons, List.map_nil]); (rfl))) ?_; (with_reducible refine (urlform_Unescape.calls t214 t219 t220 t221 _ A19.out).mono ?_); rintro e w38 ⟨rfl, hb⟩; refine ⟨_, rfl, ?_⟩; replace HB := Aside0.mk (below_step HB.out hb); clear hb))
             go_ret3
             exact ⟨by (rfl), by (with_reducible exact HB.out)⟩
         · replace c21 := Bool.eq_false_iff.mpr c21
           subst c21
           have H1 : (some ((⟨#[]⟩ : ByteArray), (⟨#[]⟩ : ByteArray), 113)) = some (r1, r2, r3) := by rw [if_neg (show ¬ (false = true) by decide)] at H; exact H
           clear H
           have H := H1
           clear H1
           simp only [Option.some.injEq, Prod.mk.injEq] at H
           obtain ⟨rfl, rfl, rfl⟩ := H
           go_wp2_with (first | ((with_reducible refine gate_callee (f := 64) rfl ?_); refine goesL_ (some 38) rfl rfl Tryz.func64 (by kernel_rfl) rfl #[.string (a0.extract 5 a0.size), .string (⟨#[32]⟩ : ByteArray)] rfl (by ((try simp only [List.map_toArray, List.map_cons, List.map_nil]); (rfl))) ?_; (with_reducible refine (strings_TrimLeft.calls (a0.extract 5 a0.size) (⟨#[32]⟩ : ByteArray) t210 _ A15.out).mono ?_); rintro e w39 ⟨rfl, hb⟩; refine ⟨_, rfl, ?_⟩; replace HB := Aside0.mk (below_step HB.out hb); clear hb) | ((with_reducible refine gate_callee (f := 63) rfl ?_); refine goesL_ (some 39) rfl rfl Tryz.func63 (by kernel_rfl) rfl #[.string t210] rfl (by ((try simp only [List.map_toArray, List.map_cons, List.map_nil]); (rfl))) ?_; (with_reducible refine (client_common.calls kj1 t210 t211 true _ A16.out).mono ?_); rintro e w40 ⟨rfl, hb⟩; refine ⟨_, rfl, ?_⟩; replace HB := Aside0.mk (below_step HB.out hb); clear hb) | ((with_reducible refine gate_callee (f := 65) rfl ?_); refine goesL_ (some 44) rfl rfl Tryz.func65 (by kernel_rfl) rfl #[.string t211, .string (⟨#[58]⟩ : ByteArray)] rfl (by ((try simp only [List.map_toArray, List.map_cons, List.map_nil]); (rfl))) ?_; (with_reducible refine (strings_Cut.calls t211 (⟨#[58]⟩ : ByteArray) t213 t214 false _ A17.out).mono ?_); rintro e w41 ⟨rfl, hb⟩; refine ⟨_, rfl, ?_⟩; replace HB := Aside0.mk (below_step HB.out hb); clear hb) | ((with_reducible refine gate_callee (f := 66) rfl ?_); refine goesL_ (some 50) rfl rfl Tryz.func66 (by kernel_rfl) rfl #[.string t213] rfl (by ((try simp only [List.map_toArray, List.map_cons, List.map_nil]); (rfl))) ?_; (with_reducible refine (urlform_Unescape.calls t213 t216 t217 t218 _ A18.out).mono ?_); rintro e w42 ⟨rfl, hb⟩; refine ⟨_, rfl, ?_⟩; replace HB := Aside0.mk (below_step HB.out hb); clear hb) | ((with_reducible refine gate_callee (f := 66) rfl ?_); refine goesL_ (some 56) rfl rfl Tryz.func66 (by kernel_rfl) rfl #[.string t214] rfl (by ((try simp only [List.map_toArray, List.map_cons, List.map_nil]); (rfl))) ?_; (with_reducible refine (urlform_Unescape.calls t214 t219 t220 t221 _ A19.out).mono ?_); rintro e w43 ⟨rfl, hb⟩; refine ⟨_, rfl, ?_⟩; replace HB := Aside0.mk (below_step HB.out hb); clear hb))
           go_ret3
           exact ⟨by (rfl), by (with_reducible exact HB.out)⟩
       · replace c20 := Bool.eq_false_iff.mpr c20
         subst c20
         have H1 : (some ((⟨#[]⟩ : ByteArray), (⟨#[]⟩ : ByteArray), 113)) = some (r1, r2, r3) := by rw [if_neg (show ¬ (false = true) by decide)] at H; exact H
         clear H
         have H := H1
         clear H1
         simp only [Option.some.injEq, Prod.mk.injEq] at H
         obtain ⟨rfl, rfl, rfl⟩ := H
         go_wp2_with (first | ((with_reducible refine gate_callee (f := 64) rfl ?_); refine goesL_ (some 38) rfl rfl Tryz.func64 (by kernel_rfl) rfl #[.string (a0.extract 5 a0.size), .string (⟨#[32]⟩ : ByteArray)] rfl (by ((try simp only [List.map_toArray, List.map_cons, List.map_nil]); (rfl))) ?_; (with_reducible refine (strings_TrimLeft.calls (a0.extract 5 a0.size) (⟨#[32]⟩ : ByteArray) t210 _ A15.out).mono ?_); rintro e w44 ⟨rfl, hb⟩; refine ⟨_, rfl, ?_⟩; replace HB := Aside0.mk (below_step HB.out hb); clear hb) | ((with_reducible refine gate_callee (f := 63) rfl ?_); refine goesL_ (some 39) rfl rfl Tryz.func63 (by kernel_rfl) rfl #[.string t210] rfl (by ((try simp only [List.map_toArray, List.map_cons, List.map_nil]); (rfl))) ?_; (with_reducible refine (client_common.calls kj1 t210 t211 false _ A16.out).mono ?_); rintro e w45 ⟨rfl, hb⟩; refine ⟨_, rfl, ?_⟩; replace HB := Aside0.mk (below_step HB.out hb); clear hb) | ((with_reducible refine gate_callee (f := 65) rfl ?_); refine goesL_ (some 44) rfl rfl Tryz.func65 (by kernel_rfl) rfl #[.string t211, .string (⟨#[58]⟩ : ByteArray)] rfl (by ((try simp only [List.map_toArray, List.map_cons, List.map_nil]); (rfl))) ?_; (with_reducible refine (strings_Cut.calls t211 (⟨#[58]⟩ : ByteArray) t213 t214 t215 _ A17.out).mono ?_); rintro e w46 ⟨rfl, hb⟩; refine ⟨_, rfl, ?_⟩; replace HB := Aside0.mk (below_step HB.out hb); clear hb) | ((with_reducible refine gate_callee (f := 66) rfl ?_); refine goesL_ (some 50) rfl rfl Tryz.func66 (by kernel_rfl) rfl #[.string t213] rfl (by ((try simp only [List.map_toArray, List.map_cons, List.map_nil]); (rfl))) ?_; (with_reducible refine (urlform_Unescape.calls t213 t216 t217 t218 _ A18.out).mono ?_); rintro e w47 ⟨rfl, hb⟩; refine ⟨_, rfl, ?_⟩; replace HB := Aside0.mk (below_step HB.out hb); clear hb) | ((with_reducible refine gate_callee (f := 66) rfl ?_); refine goesL_ (some 56) rfl rfl Tryz.func66 (by kernel_rfl) rfl #[.string t214] rfl (by ((try simp only [List.map_toArray, List.map_cons, List.map_nil]); (rfl))) ?_; (with_reducible refine (urlform_Unescape.calls t214 t219 t220 t221 _ A19.out).mono ?_); rintro e w48 ⟨rfl, hb⟩; refine ⟨_, rfl, ?_⟩; replace HB := Aside0.mk (below_step HB.out hb); clear hb))
         go_ret3
         exact ⟨by (rfl), by (with_reducible exact HB.out)⟩
     · rw [if_neg c14] at H
       exact absurd H (by simp)
end Go.Proofs.YtmimipgmhgalaaaGreatDoor.PAll
end
section
namespace Go.Proofs.YtmimipgmhgalaaaGreatDoor.Sha
open Go.RowKit Go.Proofs.YtmimipgmhgalaaaGreatDoorW.PrintWords Go.Proofs.YtmimipgmhgalaaaGreatDoor.Plain Go.Proofs.YtmimipgmhgalaaaGreatDoor.PAll Go.Proofs.YtmimipgmhgalaaaGreatDoor.Spec
set_option linter.unusedSimpArgs false
set_option linter.unusedVariables false
structure Bare (l m : List UInt8) (p : Nat) : Prop where
  eq : l = m ++ List.replicate p 61
  le : p ≤ 2
  all : p < 2 → m = [] ∨ ∃ q y, m = q ++ [y] ∧ y ≠ 61
theorem last_or (l : List UInt8) : l = [] ∨ (∃ m, l = m ++ [61]) ∨ ∃ q y, l = q ++ [y] ∧ y ≠ 61 := by
  rcases List.eq_nil_or_concat l with h | ⟨q, y, h⟩
  · exact .inl h
  rw [List.concat_eq_append] at h
  by_cases hy : y = 61
  · exact .inr (.inl ⟨q, by rw [h, hy]⟩)
  · exact .inr (.inr ⟨q, y, h, hy⟩)
theorem bare_of (l : List UInt8) : ∃ m p, Bare l m p := by
  rcases last_or l with h | ⟨m, h⟩ | h
  · exact ⟨[], 0, ⟨h, by omega, fun _ => .inl rfl⟩⟩
  · rcases last_or m with h2 | ⟨m2, h2⟩ | h2
    · exact ⟨m, 1, ⟨h, by omega, fun _ => .inl h2⟩⟩
    · exact ⟨m2, 2, ⟨by rw [h, h2, List.append_assoc]; rfl, by omega, fun h => by omega⟩⟩
    · exact ⟨m, 1, ⟨h, by omega, fun _ => .inr h2⟩⟩
  · exact ⟨l, 0, ⟨by simp, by omega, fun _ => .inr h⟩⟩
theorem trim_last (q : List UInt8) (y : UInt8) : Lib.trimSuffix (q ++ [y]) [61] = if y = 61 then q else q ++ [y] := by
  unfold Lib.trimSuffix Lib.hasSuffix
  by_cases hy : y = 61
  · subst hy
    rw [if_pos (by simp [List.isSuffixOf, List.isPrefixOf]), if_pos rfl]
    simp
  · rw [if_neg (by simp [List.isSuffixOf, List.isPrefixOf]; exact fun h => hy h.symm), if_neg hy]
theorem trim_bare {l m : List UInt8} {p : Nat} (h : Bare l m p) : Lib.trimSuffix (Lib.trimSuffix l [61]) [61] = m := by
  have hl := h.le
  have h2 := h.all
  rw [h.eq]
  match p, hl, h2 with
  | 0, _, h2 =>
    rw [List.replicate_zero, List.append_nil]
    rcases h2 (by omega) with rfl | ⟨q, y, rfl, hy⟩
    · rfl
    · rw [trim_last, if_neg hy, trim_last, if_neg hy]
  | 1, _, h2 =>
    rw [show List.replicate 1 (61 : UInt8) = [61] from rfl, trim_last, if_pos rfl]
    rcases h2 (by omega) with rfl | ⟨q, y, rfl, hy⟩
    · rfl
    · rw [trim_last, if_neg hy]
  | 2, _, _ =>
    rw [show m ++ List.replicate 2 (61 : UInt8) = (m ++ [61]) ++ [61] by rw [List.append_assoc]; rfl, trim_last, if_pos rfl, trim_last, if_pos rfl]
def nN (l : List UInt8) : List Nat := l.map UInt8.toNat
theorem nN_sN (s : ByteArray) : sN s = nN s.data.toList := rfl
theorem bt_end {s : ByteArray} (hs : s.size ≤ 65536) {q e : List UInt8} {y : UInt8} (h : s.data.toList = q ++ y :: e) : ((e.length : Nat) : Int) < (s.size : Int) ∧ (0 : Int) ≤ wrap64 (wrap64 ((s.size : Int) - 1) - (e.length : Int)) ∧ wrap64 (wrap64 ((s.size : Int) - 1) - (e.length : Int)) < (s.size : Int) ∧ bt s (wrap64 (wrap64 ((s.size : Int) - 1) - (e.length : Int))) = (y.toNat : Int) := by
  have h1 : s.size = q.length + (e.length + 1) := by
    have : s.data.toList.length = s.size := by simp
    rw [← this, h, List.length_append, List.length_cons]
  have h2 : wrap64 (wrap64 ((s.size : Int) - 1) - (e.length : Int)) = ((q.length : Nat) : Int) := by
    rw [w64 (x := (s.size : Int) - 1) (by omega) (by omega), w64 (by omega) (by omega)]; omega
  rw [h2]
  refine ⟨by omega, by omega, by omega, ?_⟩
  rw [bt_sN s _ (by omega), nN_sN, h]
  unfold nN
  rw [List.map_append, List.getD_eq_getElem?_getD, List.getElem?_append_right (by simp)]
  simp
theorem pad_ev {r : ByteArray × Bool} {s : ByteArray} (hs : s.size ≤ 65536) {m : List UInt8} {p : Nat} (h : Bare s.data.toList m p) (hr : Ev (fun k => wicketref11_decoded.j1 k s (p : Int)) r) : Ev (fun k => wicketref11_decoded.l0 k s 0) r := by
  have hl := h.le
  have h2 := h.all
  have heq := h.eq
  have hsz : s.data.toList.length = s.size := by simp
  have stop (j : Nat) (hj : j < 2) (q e : List UInt8) (y : UInt8) (he : e.length = j) (hy : y ≠ 61) (hq : s.data.toList = q ++ y :: e) (hp : p = j) : Ev (fun k => wicketref11_decoded.l0 k s (j : Int)) r := by
    obtain ⟨a1, a2, a3, a4⟩ := bt_end hs hq
    rw [he] at a1 a2 a3 a4
    subst hp
    refine Ev.step (fun k => ?_) hr
    simp only [wicketref11_decoded.l0]
    rw [if_pos (by omega), if_pos a1, if_pos a2, if_pos a3, a4, if_neg (fun h => hy (UInt8.toNat_inj.1 (by exact Int.ofNat.inj h)))]
  have over (j : Nat) (hj : j < 2) (he : s.size = j) (hp : p = j) : Ev (fun k => wicketref11_decoded.l0 k s (j : Int)) r := by
    subst hp
    refine Ev.step (fun k => ?_) hr
    simp only [wicketref11_decoded.l0]
    rw [if_pos (by omega), if_neg (by omega)]
  have more (j : Nat) (hj : j < 2) (q e : List UInt8) (he : e.length = j) (hq : s.data.toList = q ++ 61 :: e) (hn : Ev (fun k => wicketref11_decoded.l0 k s ((j + 1 : Nat) : Int)) r) : Ev (fun k => wicketref11_decoded.l0 k s (j : Int)) r := by
    obtain ⟨a1, a2, a3, a4⟩ := bt_end hs hq
    rw [he] at a1 a2 a3 a4
    refine Ev.step (fun k => ?_) hn
    simp only [wicketref11_decoded.l0]
    rw [if_pos (by omega), if_pos a1, if_pos a2, if_pos a3, a4, if_pos (by decide), w64 (by omega) (by omega)]
    rfl
  match p, hl, h2, heq, hr, stop, over with
  | 0, _, h2, heq, hr, stop, over =>
    rw [List.replicate_zero, List.append_nil] at heq
    rcases h2 (by omega) with rfl | ⟨q, y, rfl, hy⟩
    · exact over 0 (by omega) (by rw [← hsz, heq]; rfl) rfl
    · exact stop 0 (by omega) q [] y rfl hy heq rfl
  | 1, _, h2, heq, hr, stop, over =>
    refine more 0 (by omega) m [] rfl heq ?_
    rcases h2 (by omega) with rfl | ⟨q, y, rfl, hy⟩
    · exact over 1 (by omega) (by rw [← hsz, heq]; rfl) rfl
    · exact stop 1 (by omega) q [61] y rfl hy (by rw [heq, List.append_assoc]; rfl) rfl
  | 2, _, _, heq, hr, stop, over =>
    refine more 0 (by omega) (m ++ [61]) [] rfl (by rw [heq, List.append_assoc]; rfl) (more 1 (by omega) m [61] rfl heq ?_)
    refine Ev.step (fun k => ?_) hr
    simp only [wicketref11_decoded.l0]
    rw [if_neg (by omega)]
def decB (m : List Nat) : Option (List Nat) := if (∀ c ∈ m, okc c) ∧ m.length % 4 ≠ 1 ∧ (une (m.map v6)).2 = 0 then some (une (m.map v6)).1 else none
def DecR (o : Option (List Nat)) (x : ByteArray) (ok : Bool) : Prop := match o with | some p => ok = true ∧ x = strOfNums (toI p) | none => ok = false
theorem map_v6_lt {m : List Nat} (h : ∀ c ∈ m, okc c) : Lt 64 (m.map v6) := fun x hx => by
  obtain ⟨c, hc, rfl⟩ := List.mem_map.1 hx
  exact v6_lt c (h c hc)
theorem flat_bits (m : List Nat) : (m.flatMap fun c => bits6 (v6 c)) = (m.map v6).flatMap bits6 := by
  rw [List.flatMap_map]
theorem bits_len (v : List Nat) : (v.flatMap bits6).length = 6 * v.length := by
  induction v with
  | nil => rfl
  | cons x r ih => rw [List.flatMap_cons, List.length_append, ih, List.length_cons]; simp [bits6]; omega
theorem bits_two (v : List Nat) : ∀ b ∈ v.flatMap bits6, b < 2 := fun b hb => by
  obtain ⟨x, _, hx⟩ := List.mem_flatMap.1 hb
  simp only [bits6, List.mem_cons, List.not_mem_nil, or_false] at hx
  omega
theorem decoded_ev {s : ByteArray} (hs : s.size ≤ 65536) {m : List UInt8} {p : Nat} (h : Bare s.data.toList m p) (h4 : s.size % 4 = 0) : ∃ x ok, Ev (fun k => wicketref11_decoded.f k s) (x, ok) ∧ DecR (decB (nN m)) x ok := by
  have hsz : s.data.toList.length = s.size := by simp
  have hm : m.length + p = s.size := by rw [← hsz, h.eq, List.length_append, List.length_replicate]
  have htk : (sN s).take m.length = nN m := by
    rw [nN_sN, h.eq]; unfold nN; rw [List.map_append, List.take_left' (by simp)]
  have start {r : ByteArray × Bool} (hr : Ev (fun k => wicketref11_decoded.l1 k s (m.length : Int) (toI []) ((0 : Nat) : Int)) r) : Ev (fun k => wicketref11_decoded.f k s) r := by
    unfold wicketref11_decoded.f
    refine Ev.pos (by omega) (pad_ev hs h (Ev.step (fun k => ?_) hr))
    simp only [wicketref11_decoded.j1]
    rw [w64 (by omega) (by omega), show (s.size : Int) - (p : Int) = (m.length : Int) by omega]
    rfl
  by_cases hok : ∀ c ∈ nN m, okc c
  · have hv := map_v6_lt hok
    have hlm : (nN m).length = m.length := by simp [nN]
    have h3 := l3_ev _ ((nN m).flatMap fun c => bits6 (v6 c)) [] (Nat.le_refl _) (by rw [flat_bits, bits_len, List.length_map]; omega) (by rw [flat_bits]; exact bits_two _) (by rw [flat_bits, bits_len, List.length_map]; simp; omega)
    have hp := packs_une _ hv
    rw [← flat_bits] at hp
    rw [List.nil_append, hp] at h3
    have ht := tail_une _ hv
    rw [List.length_map] at ht
    refine ⟨(fin (une ((nN m).map v6)).1 (tailB ((nN m).map v6))).1, (fin (une ((nN m).map v6)).1 (tailB ((nN m).map v6))).2, start (l1_good s m.length (by omega) hs (nN m) 0 [] (by rw [htk]; rfl) rfl (by omega) hok h3), ?_⟩
    unfold fin decB
    by_cases h1 : (nN m).length % 4 ≠ 1
    · by_cases hz : (une ((nN m).map v6)).2 = 0
      · rw [if_pos ((ht.2 h1).2 hz), if_pos ⟨hok, h1, hz⟩]
        exact ⟨decide_eq_true (ht.1.2 h1), rfl⟩
      · rw [if_neg (fun hx => hz ((ht.2 h1).1 hx)), if_neg (fun hx => hz hx.2.2)]
        exact rfl
    · rw [if_neg (fun hx => h1 hx.2.1)]
      unfold DecR
      show Prod.snd _ = false
      by_cases hz : ∀ b ∈ tailB ((nN m).map v6), b = 0
      · rw [if_pos hz]; exact decide_eq_false (fun hx => h1 (ht.1.1 hx))
      · rw [if_neg hz]
  · have hbad : ∃ c ∈ nN m, ¬ okc c := by
      apply Classical.byContradiction
      intro hn
      exact hok (fun c hc => Classical.byContradiction fun hx => hn ⟨c, hc, hx⟩)
    refine ⟨_, _, start (l1_bad s m.length (by omega) hs (nN m) 0 [] (by rw [htk]; rfl) rfl hbad), ?_⟩
    unfold decB DecR
    rw [if_neg (fun hx => hok hx.1)]
theorem strN_size (p : List Nat) : (strOfNums (toI p)).size = p.length := by
  have h := congrArg List.length (Lib.strOfNums_toList (toI p))
  rw [ByteArray.toList_eq] at h
  unfold Lib.bytesOf at h
  rw [List.length_map, toI_len] at h
  rw [← h]; simp
theorem bad_none {al : List Nat} : ∀ (v : List Nat) (i : Nat), (∀ c ∈ v, c ∈ al) → bad al v i = none
  | [], _, _ => rfl
  | c :: r, i, h => by rw [bad, if_pos (h c (by simp))]; exact bad_none r (i + 1) (fun d hd => h d (by simp [hd]))
theorem nN_rep (m : List UInt8) : nN (repL 47 95 (repL 43 45 m)) = (nN m).map mapPl := by
  unfold nN repL
  rw [List.map_map, List.map_map, List.map_map]
  apply List.map_congr_left
  intro c _
  show UInt8.toNat (if (if c = 43 then 45 else c) = 47 then 95 else (if c = 43 then 45 else c)) = mapPl c.toNat
  unfold mapPl
  by_cases h1 : c = 43
  · subst h1; rfl
  · have h1' : c.toNat ≠ 43 := fun e => h1 (UInt8.toNat_inj.1 e)
    rw [if_neg h1, if_neg h1']
    by_cases h2 : c = 47
    · subst h2; rfl
    · have h2' : c.toNat ≠ 47 := fun e => h2 (UInt8.toNat_inj.1 e)
      rw [if_neg h2, if_neg h2']
theorem hasDU_iff (l : List UInt8) : hasDU l = true ↔ ∃ c ∈ l, c.toNat = 45 ∨ c.toNat = 95 := by
  unfold hasDU
  rw [List.any_eq_true]
  simp [isDU]
theorem common_ev {s : ByteArray} (hs : s.size ≤ 65536) {m : List UInt8} {p : Nat} (h : Bare s.data.toList m p) (h4 : s.size % 4 = 0) : ∃ x ok, Ev (fun k => client_common.f k s) (x, ok) ∧ DecR (decB (nN m)) x ok ∧ x.size ≤ 65536 := by
  have hsz : s.data.toList.length = s.size := by simp
  have hm : m.length + p = s.size := by rw [← hsz, h.eq, List.length_append, List.length_replicate]
  have hp := h.le
  have hrl : (repL 47 95 (repL 43 45 m)).length = m.length := by simp [repL]
  unfold client_common.f
  by_cases hd : hasDU s.data.toList = true
  · refine ⟨_, _, Ev.pos (by omega) (Ev.bind (a := true) (Ev.eq (s := true) (Ev.congr (f := fun _ => some (hasDU s.data.toList)) (fun _ => if_pos ⟨by omega, rfl⟩) (Ev.now _)) hd) (Ev.step (f := fun _ => some ((⟨#[]⟩ : ByteArray), false)) (fun k => by simp only [client_common.j0, if_true]) (Ev.now _))), ?_, by decide⟩
    obtain ⟨c, hc, hcd⟩ := (hasDU_iff _).1 hd
    have hcm : c ∈ m := by
      rw [h.eq] at hc
      rcases List.mem_append.1 hc with hc | hc
      · exact hc
      · rw [(List.mem_replicate.1 hc).2] at hcd; exact absurd hcd (by decide)
    unfold decB DecR
    rw [if_neg (fun hx => by
      have h1 := hx.1 c.toNat (List.mem_map.2 ⟨c, hcm, rfl⟩)
      rcases hcd with e | e
      · exact h1.1 e
      · exact h1.2.1 e)]
  · have hd' : hasDU s.data.toList = false := by simpa using hd
    have hno : ∀ c ∈ m, c.toNat ≠ 45 ∧ c.toNat ≠ 95 := fun c hc => by
      have hcl : c ∈ s.data.toList := by rw [h.eq]; exact List.mem_append_left _ hc
      exact ⟨fun e => hd ((hasDU_iff _).2 ⟨c, hcl, .inl e⟩), fun e => hd ((hasDU_iff _).2 ⟨c, hcl, .inr e⟩)⟩
    have hok : (∀ c ∈ nN m, okc c) ↔ ∀ c ∈ (nN m).map mapPl, c ∈ al64 := by
      constructor
      · intro hx c hc
        obtain ⟨d, hd, rfl⟩ := List.mem_map.1 hc
        exact (hx d hd).2.2
      · intro hx c hc
        obtain ⟨d, hd, rfl⟩ := List.mem_map.1 hc
        have := hno d hd
        exact ⟨this.1, this.2, hx _ (List.mem_map.2 ⟨_, hc, rfl⟩)⟩
    have hv : ((nN m).map mapPl).map (value al64) = (nN m).map v6 := by rw [List.map_map]; rfl
    have hnl : (nN m).length = m.length := by simp [nN]
    let T : ByteArray := ⟨(repL 47 95 (repL 43 45 m)).toArray⟩
    have hT : sN T = (nN m).map mapPl := nN_rep m
    have hTs : T.size = m.length := by rw [← hrl]; show (repL 47 95 (repL 43 45 m)).toArray.size = _; simp
    have hF := from64_ev T
    rw [hT] at hF
    have key : (∃ pp, decB (nN m) = some pp ∧ from64 ((nN m).map mapPl) = (pp, 0, 0)) ∨ (decB (nN m) = none ∧ (from64 ((nN m).map mapPl)).2.1 ≠ 0) := by
      have hF64 : from64 ((nN m).map mapPl) = (match bad al64 ((nN m).map mapPl) 0 with
          | some i => ([], 20, i)
          | none => if (nN m).length % 4 = 1 then ([], 3, (nN m).length) else if (une ((nN m).map v6)).2 = 0 then ((une ((nN m).map v6)).1, 0, 0) else ([], 21, (nN m).length - 1)) := by
        unfold from64
        rw [if_neg (by rw [List.length_map, hnl]; omega), hv, List.length_map]
        all_goals (cases bad al64 ((nN m).map mapPl) 0 <;> rfl)
      rw [hF64]
      unfold decB
      by_cases h1 : ∀ c ∈ nN m, okc c
      · rw [bad_none _ _ (hok.1 h1)]
        by_cases h2 : (nN m).length % 4 = 1
        · exact .inr ⟨if_neg (fun hx => hx.2.1 h2), by simp [h2]⟩
        · by_cases h3 : (une ((nN m).map v6)).2 = 0
          · exact .inl ⟨_, if_pos ⟨h1, h2, h3⟩, by simp [h2, h3]⟩
          · exact .inr ⟨if_neg (fun hx => h3 hx.2.2), by simp [h2, h3]⟩
      · refine .inr ⟨if_neg (fun hx => h1 hx.1), ?_⟩
        cases hb : bad al64 ((nN m).map mapPl) 0 with
        | none => exact absurd (hok.2 (good _ _ hb)) h1
        | some i => simp
    have go {r : ByteArray × Bool} (hr : Ev (fun k => (digest_FromBase64.f k T).bind fun bt204 => (if bt204.2.1 = 0 then (some (strOfNums bt204.1, ((wrap64 ((wrap64 (Int.tdiv (wrap64 ((T.size : Int) + 3)) 4)) * 4)) == (s.size : Int)))) else (some (strOfNums bt204.1, false)))) r) :
        Ev (fun k => if ((s.size : Int) % 4) = 0 then ((strings_ContainsAny.f s (⟨#[45, 95]⟩ : ByteArray)).bind fun t199 => (client_common.j0 k s t199)) else (client_common.j0 k s true)) r := by
      refine Ev.pos (by omega) (Ev.bind (a := false) (Ev.eq (Ev.congr (f := fun _ => some (hasDU s.data.toList)) (fun _ => if_pos ⟨by omega, rfl⟩) (Ev.now _)) hd') (Ev.step (fun k => ?_) hr))
      simp only [client_common.j0]
      rw [if_neg (by decide)]
      have e1 : strings_TrimSuffix.f s (⟨#[61]⟩ : ByteArray) = some ⟨(Lib.trimSuffix s.data.toList [61]).toArray⟩ := if_pos (by omega)
      have hlt : (Lib.trimSuffix s.data.toList [61]).length ≤ s.size := by
        unfold Lib.trimSuffix; split
        · rw [List.length_take]; omega
        · omega
      have e2 : strings_TrimSuffix.f ⟨(Lib.trimSuffix s.data.toList [61]).toArray⟩ (⟨#[61]⟩ : ByteArray) = some ⟨m.toArray⟩ := by
        unfold strings_TrimSuffix.f
        rw [if_pos (by show (Lib.trimSuffix s.data.toList [61]).toArray.size ≤ _; simp; omega)]
        exact congrArg (fun l => some (⟨List.toArray l⟩ : ByteArray)) (trim_bare h)
      have e3 : strings_ReplaceAll.f ⟨m.toArray⟩ (⟨#[43]⟩ : ByteArray) (⟨#[45]⟩ : ByteArray) = some ⟨(repL 43 45 m).toArray⟩ := if_pos ⟨rfl, rfl, by show m.toArray.size < _; simp; omega⟩
      have e4 : strings_ReplaceAll.f ⟨(repL 43 45 m).toArray⟩ (⟨#[47]⟩ : ByteArray) (⟨#[95]⟩ : ByteArray) = some T := if_pos ⟨rfl, rfl, by show (repL 43 45 m).toArray.size < _; simp [repL]; omega⟩
      rw [e1, Option.bind_some, e2, Option.bind_some, e3, Option.bind_some, e4, Option.bind_some]
    rcases key with ⟨pp, k1, k2⟩ | ⟨k1, k2⟩
    · rw [k2] at hF
      refine ⟨strOfNums (toI pp), true, go (Ev.bind hF (Ev.pos rfl (Ev.eq (Ev.now _) ?_))), ?_, ?_⟩
      · have h1 : m.length % 4 ≠ 1 := by
          intro e
          unfold decB at k1
          rw [if_neg (fun hx => hx.2.1 (by rw [hnl]; exact e))] at k1
          cases k1
        refine Prod.ext rfl ?_
        show ((wrap64 ((wrap64 (Int.tdiv (wrap64 ((T.size : Int) + 3)) 4)) * 4)) == (s.size : Int)) = true
        rw [beq_iff_eq, hTs, w64 (x := (m.length : Int) + 3) (by omega) (by omega), show (m.length : Int) + 3 = ((m.length + 3 : Nat) : Int) by omega, show Int.tdiv ((m.length + 3 : Nat) : Int) 4 = (((m.length + 3) / 4 : Nat) : Int) from rfl, w64 (x := (((m.length + 3) / 4 : Nat) : Int)) (by omega) (by omega), w64 (by omega) (by omega)]
        omega
      · rw [k1]; exact ⟨rfl, rfl⟩
      · have := from64_len ((nN m).map mapPl)
        rw [k2] at this
        rw [strN_size]; exact this
    · refine ⟨_, false, go (Ev.bind hF (Ev.neg (fun e => k2 (by exact Int.ofNat.inj e)) (Ev.now _))), ?_, ?_⟩
      · rw [k1]; rfl
      · have := from64_len ((nN m).map mapPl)
        show (strOfNums (toI (from64 ((nN m).map mapPl)).1)).size ≤ _
        rw [strN_size]; exact this
end Go.Proofs.YtmimipgmhgalaaaGreatDoor.Sha
end
section
namespace Go.Proofs.YtmimipgmhgalaaaGreatDoor.Pure
open Go.RowKit Go.Proofs.YtmimipgmhgalaaaGreatDoorW.PrintWords Go.Proofs.YtmimipgmhgalaaaGreatDoor.Plain Go.Proofs.YtmimipgmhgalaaaGreatDoor.Spec
set_option linter.unusedSimpArgs false
set_option linter.unusedVariables false
def n8 (l : List UInt8) : List Int := l.map fun b => (b.toNat : Int)
theorem n8_len (l : List UInt8) : (n8 l).length = l.length := List.length_map ..
theorem n8_snoc (l : List UInt8) (c : UInt8) : n8 l ++ [(c.toNat : Int)] = n8 (l ++ [c]) := by simp [n8]
theorem str_n8 (l : List UInt8) : strOfNums (n8 l) = bs l := Lib.Lz.strOfNums_map l
theorem bt_get (s : ByteArray) (i : Nat) (h : i < s.size) : bt s (i : Int) = (s[i].toNat : Int) := by
  unfold bt
  rw [dif_pos (by simpa using h)]
  rfl
theorem u8_of (n : Int) (h0 : 0 ≤ n) (h1 : n < 256) : ((UInt8.ofNat n.toNat).toNat : Int) = n := by
  rw [UInt8.toNat_ofNat']; omega
theorem u8_lit (c : UInt8) (n : Nat) (h : c.toNat = n) : c = UInt8.ofNat n := by rw [← h, UInt8.ofNat_toNat]
end Go.Proofs.YtmimipgmhgalaaaGreatDoor.Pure
end
section
namespace Go.Proofs.YtmimipgmhgalaaaGreatDoor.Pure
open Go.RowKit Go.Proofs.YtmimipgmhgalaaaGreatDoorW.PrintWords Go.Proofs.YtmimipgmhgalaaaGreatDoor.Plain Go.Proofs.YtmimipgmhgalaaaGreatDoor.Spec Go.Proofs.YtmimipgmhgalaaaGreatDoor.PAll
set_option linter.unusedSimpArgs false
set_option linter.unusedVariables false
theorem digit_ev (c : UInt8) : Ev (fun k => wicketref03_digit.f k (c.toNat : Int)) (hexI c) := by
  have hc := c.toNat_lt
  unfold wicketref03_digit.f hexI
  by_cases h1 : 48 ≤ (c.toNat : Int) ∧ (c.toNat : Int) ≤ 57
  · rw [if_pos h1]
    refine Ev.pos (by omega) (Ev.step (f := fun _ => some ((c.toNat : Int) - 48)) (fun k => ?_) (Ev.now _))
    simp only [wicketref03_digit.j0]
    rw [if_pos (by simpa using h1.2), Int.emod_eq_of_lt (by omega) (by omega)]
  · rw [if_neg h1]
    have hj : Ev (fun k => wicketref03_digit.j0 k (c.toNat : Int) false) (if 97 ≤ (c.toNat : Int) ∧ (c.toNat : Int) ≤ 102 then (c.toNat : Int) - 97 + 10 else if 65 ≤ (c.toNat : Int) ∧ (c.toNat : Int) ≤ 70 then (c.toNat : Int) - 65 + 10 else -1) := by
      have hj1 : ∀ b : Bool, b = decide (97 ≤ (c.toNat : Int) ∧ (c.toNat : Int) ≤ 102) → Ev (fun k => wicketref03_digit.j1 k (c.toNat : Int) b) (if 97 ≤ (c.toNat : Int) ∧ (c.toNat : Int) ≤ 102 then (c.toNat : Int) - 97 + 10 else if 65 ≤ (c.toNat : Int) ∧ (c.toNat : Int) ≤ 70 then (c.toNat : Int) - 65 + 10 else -1) := by
        intro b hb
        refine Ev.step (f := fun _ => some _) (fun k => ?_) (Ev.now _)
        simp only [wicketref03_digit.j1]
        by_cases h2 : 97 ≤ (c.toNat : Int) ∧ (c.toNat : Int) ≤ 102
        · rw [if_pos (by rw [hb]; simpa using h2), if_pos h2, Int.emod_eq_of_lt (by omega) (by omega)]
        · rw [if_neg (by rw [hb]; simpa using h2), if_neg h2]
          by_cases h3 : 65 ≤ (c.toNat : Int) ∧ (c.toNat : Int) ≤ 70
          · rw [if_pos h3, if_pos h3.1, if_pos h3.2, Int.emod_eq_of_lt (by omega) (by omega)]
          · rw [if_neg h3]
            by_cases h4 : (c.toNat : Int) ≥ 65
            · rw [if_pos h4, if_neg (by omega)]
            · rw [if_neg h4]
      by_cases h5 : (c.toNat : Int) ≥ 97
      · refine Ev.step (fun k => ?_) (hj1 (decide ((c.toNat : Int) ≤ 102)) (by rw [decide_eq_decide]; omega))
        simp only [wicketref03_digit.j0]
        rw [if_neg (by simp), if_pos h5]
      · refine Ev.step (fun k => ?_) (hj1 false (by rw [eq_comm, decide_eq_false_iff_not]; omega))
        simp only [wicketref03_digit.j0]
        rw [if_neg (by simp), if_neg h5]
    by_cases h6 : (c.toNat : Int) ≥ 48
    · refine Ev.pos h6 ?_
      rw [decide_eq_false (by omega)]
      exact hj
    · exact Ev.neg h6 hj
def resU (r : List UInt8 × Int × Int) : ByteArray × Int × Int := (bs r.1, r.2.1, r.2.2)
theorem refun_loop (s : ByteArray) (hs : s.size ≤ 140737488351232) : ∀ (m i : Nat) (acc : List UInt8), s.size ≤ i + m → i ≤ s.size → acc.length ≤ i →
    Ev (fun k => wicketref03_Unescape.l0 k s (n8 acc) (i : Int)) (resU (unescL (s.data.toList.drop i) i acc)) := by
  intro m
  induction m with
  | zero =>
    intro i acc hi hi2 ha
    rw [List.drop_eq_nil_of_le (by rw [data_len]; omega)]
    refine Ev.step (f := fun _ => some (bs acc, 0, 0)) (fun k => ?_) (Ev.eq (Ev.now _) rfl)
    simp only [wicketref03_Unescape.l0]
    simp (disch := omega) only [↓if_pos, ↓if_neg, str_n8]
  | succ m ih =>
    intro i acc hi hi2 ha
    by_cases hlt : i < s.size
    · have hbt := bt_get s i hlt
      have hal := n8_len acc
      rw [drop_at s i hlt]
      generalize hc : s[i] = c at *
      have hl0 : Ev (fun k => wicketref03_Unescape.j1 k s (n8 acc) (i : Int) (c.toNat : Int) (decide ((c.toNat : Int) < 33 ∨ 126 < (c.toNat : Int)))) (resU (unescL (c :: s.data.toList.drop (i + 1)) i acc)) → Ev (fun k => wicketref03_Unescape.l0 k s (n8 acc) (i : Int)) (resU (unescL (c :: s.data.toList.drop (i + 1)) i acc)) := by
        refine fun h => Ev.step (fun k => ?_) h
        simp only [wicketref03_Unescape.l0]
        rw [if_pos (by omega), if_pos (by omega), hbt]
        by_cases h1 : (c.toNat : Int) < 33
        · rw [if_pos h1, decide_eq_true (Or.inl h1)]
        · rw [if_neg h1]
          congr 1
          rw [decide_eq_decide]
          omega
      refine hl0 ?_
      clear hl0
      by_cases hb : (c.toNat : Int) < 33 ∨ 126 < (c.toNat : Int)
      · rw [decide_eq_true hb, unescL_bad _ _ _ _ hb]
        refine Ev.step (f := fun _ => some (⟨#[]⟩, 31, (i : Int))) (fun k => ?_) (Ev.eq (Ev.now _) rfl)
        simp only [wicketref03_Unescape.j1, if_true]
      · rw [decide_eq_false hb]
        by_cases h1 : c = 43
        · rw [unescL_plus _ _ _ _ h1]
          have h1' : (c.toNat : Int) = 43 := by rw [h1]; rfl
          refine Ev.step (fun k => ?_) (ih (i + 1) (acc ++ [32]) (by omega) (by omega) (by rw [List.length_append, List.length_singleton]; omega))
          simp only [wicketref03_Unescape.j1]
          simp (disch := omega) only [↓if_pos, ↓if_neg, Bool.false_eq_true, if_false, w64, ← n8_snoc]
          rfl
        · have h1' : ¬ (c.toNat : Int) = 43 := fun e => h1 (u8_lit c 43 (by omega))
          by_cases h2 : c = 37
          · have h2' : (c.toNat : Int) = 37 := by rw [h2]; rfl
            have hbad : ∀ k, wicketref03_Unescape.j2 (k + 1) s (n8 acc) (i : Int) true = some (⟨#[]⟩, 30, (i : Int)) := fun k => by
              simp only [wicketref03_Unescape.j2, if_true]
            have hbadE : Ev (fun k => wicketref03_Unescape.j2 k s (n8 acc) (i : Int) true) ((⟨#[]⟩ : ByteArray), 30, (i : Int)) := Ev.step (f := fun _ => some _) hbad (Ev.now _)
            by_cases h3 : i + 2 < s.size
            · have hd := digit_ev s[i + 1]
              have he := digit_ev s[i + 2]
              have r1 := hexI_range s[i + 1]
              have r2 := hexI_range s[i + 2]
              have hb1 : bt s ((i : Int) + 1) = (s[i + 1].toNat : Int) := bt_get s (i + 1) (by omega)
              have hb2 : bt s ((i : Int) + 2) = (s[i + 2].toNat : Int) := bt_get s (i + 2) (by omega)
              rw [drop_at s (i + 1) (by omega), drop_at s (i + 2) (by omega)]
              have ih3 := ih (i + 3)
              generalize s[i + 1] = d at *
              generalize s[i + 2] = e at *
              refine Ev.step (f := fun k => (wicketref03_digit.f k (d.toNat : Int)).bind fun t155 => (if t155 < 0 then (wicketref03_Unescape.j2 k s (n8 acc) (i : Int) true) else (wicketref03_digit.f k (e.toNat : Int)).bind fun t156 => (wicketref03_Unescape.j2 k s (n8 acc) (i : Int) (decide (t156 < 0))))) (fun k => ?_) ?_
              · simp only [wicketref03_Unescape.j1]
                simp (disch := omega) only [↓if_pos, ↓if_neg, Bool.false_eq_true, if_false, w64, hb1, hb2]
              · refine Ev.bind hd ?_
                by_cases h4 : hexI d < 0
                · rw [unescL_nohex _ _ _ _ _ _ h2 (.inl h4)]
                  exact Ev.pos h4 hbadE
                · refine Ev.neg h4 (Ev.bind he ?_)
                  by_cases h5 : hexI e < 0
                  · rw [unescL_nohex _ _ _ _ _ _ h2 (.inr h5), decide_eq_true h5]
                    exact hbadE
                  · rw [unescL_hex c d e _ _ _ h2 (by omega), decide_eq_false h5]
                    have hv := u8_of (16 * hexI d + hexI e) (by omega) (by omega)
                    refine Ev.step (f := fun k => (wicketref03_digit.f k (d.toNat : Int)).bind fun t157 => (wicketref03_digit.f k (e.toNat : Int)).bind fun t158 => (wicketref03_Unescape.l0 k s (n8 acc ++ [(wrap64 ((wrap64 (16 * t157)) + t158)) % 256]) ((i + 3 : Nat) : Int))) (fun k => ?_) ?_
                    · simp only [wicketref03_Unescape.j2]
                      simp (disch := omega) only [↓if_pos, ↓if_neg, Bool.false_eq_true, if_false, w64, hb1, hb2]
                      rw [show (i : Int) + 2 + 1 = ((i + 3 : Nat) : Int) by omega]
                    · refine Ev.bind hd (Ev.bind he ?_)
                      rw [w64 (x := 16 * hexI d) (by omega) (by omega), w64 (by omega) (by omega), Int.emod_eq_of_lt (by omega) (by omega)]
                      have key := ih3 (acc ++ [UInt8.ofNat (16 * hexI d + hexI e).toNat]) (by omega) (by omega) (by rw [List.length_append, List.length_singleton]; omega)
                      rw [← n8_snoc, hv] at key
                      exact key
            · rw [unescL_short _ _ _ _ h2 (by rw [List.length_drop, data_len]; omega)]
              refine Ev.step (fun k => ?_) hbadE
              simp only [wicketref03_Unescape.j1]
              simp (disch := omega) only [↓if_pos, ↓if_neg, Bool.false_eq_true, if_false, w64]
          · have h2' : ¬ (c.toNat : Int) = 37 := fun e => h2 (u8_lit c 37 (by omega))
            rw [unescL_keep _ _ _ _ hb h1 h2]
            refine Ev.step (fun k => ?_) (ih (i + 1) (acc ++ [c]) (by omega) (by omega) (by rw [List.length_append, List.length_singleton]; omega))
            simp only [wicketref03_Unescape.j1]
            simp (disch := omega) only [↓if_pos, ↓if_neg, Bool.false_eq_true, if_false, w64, ← n8_snoc]
            rfl
    · have he : i = s.size := by omega
      rw [List.drop_eq_nil_of_le (by rw [data_len]; omega)]
      refine Ev.step (f := fun _ => some (bs acc, 0, 0)) (fun k => ?_) (Ev.eq (Ev.now _) rfl)
      simp only [wicketref03_Unescape.l0]
      simp (disch := omega) only [↓if_pos, ↓if_neg, str_n8]
theorem refun_ev (s : ByteArray) (hs : s.size ≤ 140737488351232) : Ev (fun k => wicketref03_Unescape.f k s) (resU (unescL s.data.toList 0 [])) := by
  unfold wicketref03_Unescape.f
  exact refun_loop s hs s.size 0 [] (by omega) (by omega) (by simp)
end Go.Proofs.YtmimipgmhgalaaaGreatDoor.Pure
end
section
namespace Go.Proofs.YtmimipgmhgalaaaGreatDoor.Pure
open Go.RowKit Go.Proofs.YtmimipgmhgalaaaGreatDoorW.PrintWords Go.Proofs.YtmimipgmhgalaaaGreatDoor.Plain Go.Proofs.YtmimipgmhgalaaaGreatDoor.PAll Go.Proofs.YtmimipgmhgalaaaGreatDoor.Spec Go.Proofs.YtmimipgmhgalaaaGreatDoor.Sha
set_option linter.unusedSimpArgs false
set_option linter.unusedVariables false
abbrev E3 : ByteArray × ByteArray × Int := ((⟨#[]⟩ : ByteArray), (⟨#[]⟩ : ByteArray), 113)
def saidP (l : List UInt8) : ByteArray × ByteArray × Int :=
  if (cutL 58 l).2.2 = true ∧ (unescL (cutL 58 l).1 0 []).2.1 = 0 ∧ (unescL (cutL 58 l).2.1 0 []).2.1 = 0 then (bs (unescL (cutL 58 l).1 0 []).1, bs (unescL (cutL 58 l).2.1 0 []).1, 0) else E3
theorem cutL_len (c : UInt8) : ∀ l : List UInt8, (cutL c l).1.length ≤ l.length ∧ (cutL c l).2.1.length ≤ l.length
  | [] => by simp [cutL]
  | x :: r => by
    have := cutL_len c r
    unfold cutL
    split
    · simp
    · simp; omega
theorem cutL_spec (c : UInt8) : ∀ l : List UInt8, ((cutL c l).2.2 = true → l = (cutL c l).1 ++ c :: (cutL c l).2.1) ∧ ((cutL c l).2.2 = false → (cutL c l).1 = l)
  | [] => by simp [cutL]
  | x :: r => by
    have ih := cutL_spec c r
    unfold cutL
    by_cases hx : x = c
    · rw [if_pos hx]; exact ⟨fun _ => by rw [hx]; rfl, fun h => by cases h⟩
    · rw [if_neg hx]
      exact ⟨fun h => congrArg (List.cons x) (ih.1 h), fun h => congrArg (List.cons x) (ih.2 h)⟩
theorem tailP (x : ByteArray) (ok : Bool) (hx : x.size ≤ 65536) : ((strings_Cut.f x (⟨#[58]⟩ : ByteArray)).bind fun bt213 => ((urlform_Unescape.f bt213.1).bind fun bt216 => ((urlform_Unescape.f bt213.2.1).bind fun bt219 => (if ok = true then (if bt213.2.2 = true then (if bt216.2.1 = 0 then (if bt219.2.1 = 0 then (some (bt216.1, bt219.1, (0 : Int))) else (some ((⟨#[]⟩ : ByteArray), (⟨#[]⟩ : ByteArray), 113))) else (some ((⟨#[]⟩ : ByteArray), (⟨#[]⟩ : ByteArray), 113))) else (some ((⟨#[]⟩ : ByteArray), (⟨#[]⟩ : ByteArray), 113))) else (some ((⟨#[]⟩ : ByteArray), (⟨#[]⟩ : ByteArray), 113)))))) = some (if ok = true then saidP x.data.toList else E3) := by
  have hl : x.data.toList.length = x.size := by simp
  have h1 := cutL_len 58 x.data.toList
  have s1 : (bs (cutL 58 x.data.toList).1).size ≤ 65536 := by rw [bs_size]; omega
  have s2 : (bs (cutL 58 x.data.toList).2.1).size ≤ 65536 := by rw [bs_size]; omega
  rw [cut_eq x 58 (by omega), Option.bind_some]
  dsimp only
  rw [unesc_eq _ (by omega), Option.bind_some, unesc_eq _ (by omega), Option.bind_some, bs_data, bs_data]
  unfold saidP
  by_cases h0 : ok = true
  · rw [if_pos h0, if_pos h0]
    by_cases c1 : (cutL 58 x.data.toList).2.2 = true
    · rw [if_pos c1]
      by_cases c2 : (unescL (cutL 58 x.data.toList).1 0 []).2.1 = 0
      · rw [if_pos c2]
        by_cases c3 : (unescL (cutL 58 x.data.toList).2.1 0 []).2.1 = 0
        · rw [if_pos c3, if_pos ⟨c1, c2, c3⟩]
        · rw [if_neg c3, if_neg (fun h => c3 h.2.2)]
      · rw [if_neg c2, if_neg (fun h => c2 h.2.1)]
    · rw [if_neg c1, if_neg (fun h => c1 h.1)]
  · rw [if_neg h0, if_neg h0]
theorem bt_at' {s : ByteArray} {q e : List UInt8} {y : UInt8} (h : s.data.toList = q ++ y :: e) : (q.length : Int) < (s.size : Int) ∧ bt s (q.length : Int) = (y.toNat : Int) := by
  have h1 : s.data.toList.length = s.size := by simp
  have h2 : q.length < s.size := by rw [← h1, h, List.length_append, List.length_cons]; omega
  refine ⟨by omega, ?_⟩
  rw [bt_sN s _ h2, nN_sN, h]
  unfold nN
  rw [List.map_append, List.getD_eq_getElem?_getD, List.getElem?_append_right (by simp)]
  simp
theorem ba_ext {a b : ByteArray} (h : a.data.toList = b.data.toList) : a = b := toList_inj (by rw [ByteArray.toList_eq, ByteArray.toList_eq, h])
theorem take_of {l a b : List UInt8} {c : UInt8} (h : l = a ++ c :: b) : l.take a.length = a := by rw [h]; exact List.take_left' rfl
theorem drop_of {l a b : List UInt8} {c : UInt8} (h : l = a ++ c :: b) : l.drop (a.length + 1) = b := by
  rw [h, ← List.drop_drop, List.drop_left' rfl]; rfl
theorem l2r_ev {r : ByteArray × ByteArray × Int} (x : ByteArray) (hx : x.size ≤ 65536) : ∀ (d q : List UInt8), x.data.toList = q ++ d → Ev (fun k => wicketref11_Basic.j7 k x ((q.length + (cutL 58 d).1.length : Nat) : Int)) r → Ev (fun k => wicketref11_Basic.l2 k x (q.length : Int)) r
  | [], q, h, hr => by
    have h1 : x.data.toList.length = x.size := by simp
    rw [h, List.append_nil] at h1
    refine Ev.step (fun k => ?_) hr
    simp only [wicketref11_Basic.l2]
    rw [if_neg (by omega)]
    rfl
  | y :: d, q, h, hr => by
    obtain ⟨h1, h2⟩ := bt_at' h
    by_cases hy : y = 58
    · refine Ev.step (fun k => ?_) hr
      simp only [wicketref11_Basic.l2]
      rw [if_pos h1, if_pos (by omega), h2, if_pos (by rw [hy]; rfl), cutL, if_pos hy]
      rfl
    · have ih := l2r_ev x hx d (q ++ [y]) (by rw [h, List.append_assoc]; rfl) (r := r) (by
        rw [cutL, if_neg hy] at hr
        refine Ev.congr (fun k => ?_) hr
        congr 1
        rw [List.length_append]
        simp only [List.length_cons, List.length_nil]
        omega)
      refine Ev.step (fun k => ?_) ih
      simp only [wicketref11_Basic.l2]
      rw [if_pos h1, if_pos (by omega), h2, if_neg (fun e => hy (UInt8.toNat_inj.1 (by exact Int.ofNat.inj e))), w64 (by omega) (by omega), List.length_append]
      rfl
theorem j5_yes (x : ByteArray) (hx : x.size ≤ 65536) : Ev (fun k => wicketref11_Basic.j5 k x (!true)) (saidP x.data.toList) := by
  have hl : x.data.toList.length = x.size := by simp
  have h1 := cutL_len 58 x.data.toList
  have hsp := cutL_spec 58 x.data.toList
  refine Ev.step (f := fun k => wicketref11_Basic.l2 k x (([] : List UInt8).length : Int)) (fun k => by simp only [wicketref11_Basic.j5, Bool.not_true, Bool.false_eq_true, if_false]; rfl) (l2r_ev x hx x.data.toList [] rfl ?_)
  rw [List.length_nil, Nat.zero_add]
  unfold saidP
  by_cases c1 : (cutL 58 x.data.toList).2.2 = true
  · have hs := hsp.1 c1
    have hn : x.size = (cutL 58 x.data.toList).1.length + ((cutL 58 x.data.toList).2.1.length + 1) := by
      have := congrArg List.length hs
      rw [hl, List.length_append, List.length_cons] at this
      exact this
    have e1 : x.extract 0 ((((cutL 58 x.data.toList).1.length : Nat) : Int)).toNat = bs (cutL 58 x.data.toList).1 := by
      apply ba_ext
      rw [Lib.extract_data, bs_data, Int.toNat_natCast, List.drop_zero, Nat.sub_zero]
      exact take_of hs
    have e2 : x.extract (((((cutL 58 x.data.toList).1.length + 1 : Nat)) : Int)).toNat x.size = bs (cutL 58 x.data.toList).2.1 := by
      apply ba_ext
      rw [Lib.extract_data, bs_data, Int.toNat_natCast, drop_of hs, List.take_of_length_le (by omega)]
    have u1 := refun_ev (bs (cutL 58 x.data.toList).1) (by rw [bs_size]; omega)
    have u2 := refun_ev (bs (cutL 58 x.data.toList).2.1) (by rw [bs_size]; omega)
    rw [bs_data] at u1 u2
    refine Ev.step (fun k => ?_) (f := fun k => (wicketref03_Unescape.f k (bs (cutL 58 x.data.toList).1)).bind fun bt468 => (wicketref03_Unescape.f k (bs (cutL 58 x.data.toList).2.1)).bind fun bt471 => (if bt468.2.1 = 0 then (if bt471.2.1 = 0 then (some (bt468.1, bt471.1, 0)) else (some ((⟨#[]⟩ : ByteArray), (⟨#[]⟩ : ByteArray), 113))) else (some ((⟨#[]⟩ : ByteArray), (⟨#[]⟩ : ByteArray), 113)))) ?_
    · simp only [wicketref11_Basic.j7]
      rw [if_neg (by omega), if_pos (by omega), if_pos (by omega), e1, w64 (by omega) (by omega), show ((((cutL 58 x.data.toList).1.length : Nat) : Int) + 1) = (((cutL 58 x.data.toList).1.length + 1 : Nat) : Int) from rfl]
      congr 1
      funext bt468
      rw [if_pos (by omega), if_pos (by omega), e2]
    · refine Ev.bind u1 (Ev.bind u2 ?_)
      by_cases c2 : (unescL (cutL 58 x.data.toList).1 0 []).2.1 = 0
      · refine Ev.pos c2 ?_
        by_cases c3 : (unescL (cutL 58 x.data.toList).2.1 0 []).2.1 = 0
        · exact Ev.eq (Ev.pos c3 (Ev.now _)) (if_pos ⟨c1, c2, c3⟩).symm
        · exact Ev.eq (Ev.neg c3 (Ev.now _)) (if_neg (fun h => c3 h.2.2)).symm
      · exact Ev.eq (Ev.neg c2 (Ev.now _)) (if_neg (fun h => c2 h.2.1)).symm
  · have hs := hsp.2 (by simpa using c1)
    rw [if_neg (fun h => c1 h.1), hs, hl]
    refine Ev.step (fun k => ?_) (Ev.now _)
    simp only [wicketref11_Basic.j7, if_true]
theorem bt_drop {s : ByteArray} {d : List UInt8} {y : UInt8} {i : Nat} (h : s.data.toList.drop i = y :: d) : (i : Int) < (s.size : Int) ∧ bt s (i : Int) = (y.toNat : Int) ∧ s.data.toList.drop (i + 1) = d := by
  have h1 : s.data.toList.length = s.size := by simp
  have hi : i < s.data.toList.length := by
    apply Classical.byContradiction
    intro hn
    rw [List.drop_eq_nil_of_le (by omega)] at h
    cases h
  have h2 := List.drop_eq_getElem_cons hi
  rw [h] at h2
  injection h2 with ha hb
  have h3 : s.data.toList = s.data.toList.take i ++ y :: d := by rw [← h]; exact (List.take_append_drop i _).symm
  have h4 := bt_at' h3
  rw [List.length_take, Nat.min_eq_left (by omega)] at h4
  exact ⟨h4.1, h4.2, hb.symm⟩
theorem fold_low (c y : UInt8) (hy : 97 ≤ y.toNat ∧ y.toNat ≤ 122) : Lib.foldEq c y = true ↔ if 65 ≤ c.toNat ∧ c.toNat ≤ 90 then c.toNat + 32 = y.toNat else c.toNat = y.toNat := by
  unfold Lib.foldEq
  rw [decide_eq_true_iff]
  split <;> omega
abbrev WB : ByteArray := ⟨#[98, 97, 115, 105, 99]⟩
theorem step_i {r : ByteArray × ByteArray × Int} (h : ByteArray) (i : Nat) (hi : i < 5) (c y : UInt8) (hc : (i : Int) < (h.size : Int) ∧ bt h (i : Int) = (c.toNat : Int)) (hb : bt WB (i : Int) = (y.toNat : Int)) (hy : 97 ≤ y.toNat ∧ y.toNat ≤ 122)
    (hn : Lib.foldEq c y = true → Ev (fun k => wicketref11_Basic.l0 k h WB ((i + 1 : Nat) : Int)) r) (he : Lib.foldEq c y = false → r = E3) : Ev (fun k => wicketref11_Basic.l0 k h WB (i : Int)) r := by
  have hlt := c.toNat_lt
  have hf := fold_low c y hy
  have hW : WB.size = 5 := rfl
  by_cases hu : 65 ≤ c.toNat ∧ c.toNat ≤ 90
  · rw [if_pos hu] at hf
    have e1 : ((((c.toNat : Int) - 65) % 256) + 97) % 256 = ((c.toNat + 32 : Nat) : Int) := by omega
    refine Ev.step (f := fun k => wicketref11_Basic.j2 k h WB (i : Int) (c.toNat : Int) true) (fun k => ?_) ?_
    · simp only [wicketref11_Basic.l0]
      rw [if_pos (by omega), if_pos (by omega), if_pos hc.1, hc.2, if_pos (by omega), decide_eq_true (show (c.toNat : Int) ≤ 90 by omega)]
    by_cases hx : Lib.foldEq c y = true
    · refine Ev.step (fun k => ?_) (hn hx)
      simp only [wicketref11_Basic.j2, if_true]
      rw [if_pos (by omega), if_pos (by rw [hW]; omega), hb, e1, if_pos (by have := hf.1 hx; omega), w64 (by omega) (by omega)]
      rfl
    · rw [he (by simpa using hx)]
      refine Ev.step (fun k => ?_) (Ev.now _)
      simp only [wicketref11_Basic.j2, if_true]
      rw [if_pos (by omega), if_pos (by rw [hW]; omega), hb, e1, if_neg (fun e => hx (hf.2 (by omega)))]
  · rw [if_neg hu] at hf
    refine Ev.step (f := fun k => wicketref11_Basic.j2 k h WB (i : Int) (c.toNat : Int) false) (fun k => ?_) ?_
    · simp only [wicketref11_Basic.l0]
      rw [if_pos (by omega), if_pos (by omega), if_pos hc.1, hc.2]
      by_cases h6 : (c.toNat : Int) ≥ 65
      · rw [if_pos h6, decide_eq_false (show ¬ (c.toNat : Int) ≤ 90 by omega)]
      · rw [if_neg h6]
    by_cases hx : Lib.foldEq c y = true
    · refine Ev.step (fun k => ?_) (hn hx)
      simp only [wicketref11_Basic.j2, Bool.false_eq_true, if_false]
      rw [if_pos (by omega), if_pos (by rw [hW]; omega), hb, if_pos (by have := hf.1 hx; omega), w64 (by omega) (by omega)]
      rfl
    · rw [he (by simpa using hx)]
      refine Ev.step (fun k => ?_) (Ev.now _)
      simp only [wicketref11_Basic.j2, Bool.false_eq_true, if_false]
      rw [if_pos (by omega), if_pos (by rw [hW]; omega), hb, if_neg (fun e => hx (hf.2 (by omega)))]
theorem l1r_ev {r : ByteArray × ByteArray × Int} (h : ByteArray) (hs : h.size ≤ 65536) : ∀ (d : List UInt8) (i : Nat), h.data.toList.drop i = d → i ≤ h.size → (∀ j, i ≤ j → j ≤ h.size → h.data.toList.drop j = d.dropWhile (· == 32) → (d.head? = some 32 → i < j) → (d.head? ≠ some 32 → i = j) → Ev (fun k => wicketref11_Basic.j4 k h (j : Int)) r) → Ev (fun k => wicketref11_Basic.l1 k h (i : Int)) r
  | [], i, hd, hi, hr => by
    have h1 : h.data.toList.length = h.size := by simp
    have h2 : h.size ≤ i := by
      have := congrArg List.length hd
      rw [List.length_drop, List.length_nil] at this
      omega
    refine Ev.step (fun k => ?_) (hr i (Nat.le_refl _) hi hd (fun e => by cases e) (fun _ => rfl))
    simp only [wicketref11_Basic.l1]
    rw [if_neg (by omega)]
  | y :: d, i, hd, hi, hr => by
    obtain ⟨h1, h2, h3⟩ := bt_drop hd
    by_cases hy : y = 32
    · subst hy
      have ih := l1r_ev (r := r) h hs d (i + 1) h3 (by omega) (fun j a b c e f => hr j (by omega) b (by rw [c]; rfl) (fun _ => by omega) (fun g => absurd rfl g))
      refine Ev.step (fun k => ?_) ih
      simp only [wicketref11_Basic.l1]
      rw [if_pos h1, if_pos (by omega), h2, if_pos (by decide), w64 (by omega) (by omega)]
      rfl
    · have hy' : (y == 32) = false := by simpa using hy
      refine Ev.step (fun k => ?_) (hr i (Nat.le_refl _) hi (by rw [hd, List.dropWhile_cons, hy']; rfl) (fun e => absurd (Option.some.inj e) hy) (fun _ => rfl))
      simp only [wicketref11_Basic.l1]
      rw [if_pos h1, if_pos (by omega), h2, if_neg (fun e => hy (UInt8.toNat_inj.1 (by exact Int.ofNat.inj e)))]
theorem dec_both (t : ByteArray) (ht : t.size ≤ 65536) : ∃ x ok y ok', Ev (fun k => client_common.f k t) (x, ok) ∧ x.size ≤ 65536 ∧ Ev (fun k => wicketref11_decoded.f k t) (y, ok') ∧ ok = ok' ∧ (ok = true → x = y) := by
  by_cases h4 : t.size % 4 = 0
  · obtain ⟨m, p, hb⟩ := bare_of t.data.toList
    obtain ⟨x, ok, h1, h2, h3⟩ := common_ev ht hb h4
    obtain ⟨y, ok', g1, g2⟩ := decoded_ev ht hb h4
    refine ⟨x, ok, y, ok', h1, h3, g1, ?_⟩
    cases ho : decB (nN m) with
    | none => rw [ho] at h2 g2; exact ⟨h2.trans g2.symm, fun e => absurd (e.symm.trans h2) (by decide)⟩
    | some q => rw [ho] at h2 g2; exact ⟨h2.1.trans g2.1.symm, fun _ => h2.2.trans g2.2.symm⟩
  · refine ⟨⟨#[]⟩, false, ⟨#[]⟩, false, ?_, by decide, ?_, rfl, fun _ => rfl⟩
    · unfold client_common.f
      exact Ev.neg (by omega) (Ev.step (f := fun _ => some ((⟨#[]⟩ : ByteArray), false)) (fun k => by simp only [client_common.j0, if_true]) (Ev.now _))
    · unfold wicketref11_decoded.f
      exact Ev.neg (by omega) (Ev.now _)
theorem fold_ascii {c y : UInt8} (h : Lib.foldEq c y = true) (hy : y.toNat < 128) : c.toNat < 128 := by
  unfold Lib.foldEq at h
  have := of_decide_eq_true h
  omega
theorem saidP_sz (x : ByteArray) (hx : x.size ≤ 65536) : (saidP x.data.toList).1.size ≤ 65536 ∧ (saidP x.data.toList).2.1.size ≤ 65536 := by
  have hl : x.data.toList.length = x.size := by simp
  have h1 := cutL_len 58 x.data.toList
  have u1 := (unescL_place _ (cutL 58 x.data.toList).1 (Nat.le_refl _) 0 []).2.2.2.2
  have u2 := (unescL_place _ (cutL 58 x.data.toList).2.1 (Nat.le_refl _) 0 []).2.2.2.2
  simp only [List.length_nil] at u1 u2
  unfold saidP
  split
  · simp only [bs_size]; omega
  · exact ⟨by decide, by decide⟩
theorem basic_all (h : ByteArray) : ∃ r : ByteArray × ByteArray × Int, ((h.size ≤ 1024 → 6 ≤ h.size → asciiS (h.extract 0 5) = true) → Ev (fun k => client_Basic.f k h) r) ∧ Ev (fun k => wicketref11_Basic.f k h) r ∧ (h.size ≤ 1024 → 6 ≤ h.size → asciiS (h.extract 0 5) = false → r = E3) ∧ r.1.size ≤ 65536 ∧ r.2.1.size ≤ 65536 := by
  have pj0 : Ev (fun k => client_Basic.j0 k h true) E3 := Ev.step (f := fun _ => some E3) (fun k => by simp only [client_Basic.j0, if_true]) (Ev.now _)
  have rj0 : Ev (fun k => wicketref11_Basic.j0 k h WB true) E3 := Ev.step (f := fun _ => some E3) (fun k => by simp only [wicketref11_Basic.j0, if_true]) (Ev.now _)
  unfold client_Basic.f wicketref11_Basic.f
  by_cases h1 : (h.size : Int) > 1024
  · exact ⟨E3, fun _ => Ev.pos h1 pj0, Ev.pos h1 rj0, fun _ _ _ => rfl, by decide, by decide⟩
  by_cases h2 : (h.size : Int) < 6
  · refine ⟨E3, fun _ => Ev.neg h1 (Ev.pos h2 pj0), Ev.neg h1 ?_, fun _ _ _ => rfl, by decide, by decide⟩
    rw [decide_eq_true h2]; exact rj0
  have hl : h.data.toList.length = h.size := by simp
  obtain ⟨c0, l1, e0, g0⟩ : ∃ x r, h.data.toList = x :: r ∧ 5 ≤ r.length := by
    match hh : h.data.toList with
    | [] => rw [hh] at hl; simp at hl; omega
    | x :: r => rw [hh, List.length_cons] at hl; exact ⟨x, r, rfl, by omega⟩
  obtain ⟨c1, l2, rfl, g1⟩ : ∃ x r, l1 = x :: r ∧ 4 ≤ r.length := by
    match l1, g0 with
    | x :: r, g => exact ⟨x, r, rfl, by simpa using g⟩
  obtain ⟨c2, l3, rfl, g2⟩ : ∃ x r, l2 = x :: r ∧ 3 ≤ r.length := by
    match l2, g1 with
    | x :: r, g => exact ⟨x, r, rfl, by simpa using g⟩
  obtain ⟨c3, l4, rfl, g3⟩ : ∃ x r, l3 = x :: r ∧ 2 ≤ r.length := by
    match l3, g2 with
    | x :: r, g => exact ⟨x, r, rfl, by simpa using g⟩
  obtain ⟨c4, l5, rfl, g4⟩ : ∃ x r, l4 = x :: r ∧ 1 ≤ r.length := by
    match l4, g3 with
    | x :: r, g => exact ⟨x, r, rfl, by simpa using g⟩
  obtain ⟨c5, l6, rfl, g5⟩ : ∃ x r, l5 = x :: r ∧ 0 ≤ r.length := by
    match l5, g4 with
    | x :: r, g => exact ⟨x, r, rfl, by omega⟩
  have hx5 : (h.extract 0 5).data.toList = [c0, c1, c2, c3, c4] := by rw [Lib.extract_data, e0]; rfl
  have hEF (hasc : h.size ≤ 1024 → 6 ≤ h.size → asciiS (h.extract 0 5) = true) : strings_EqualFold.f (h.extract 0 5) WB = some (Lib.equalFold [c0, c1, c2, c3, c4] [98, 97, 115, 105, 99]) := by
    unfold strings_EqualFold.f
    rw [if_pos ⟨by have : (h.extract 0 5).size = (h.extract 0 5).data.toList.length := by simp
                   rw [this, hx5]; show (5 : Nat) < _; omega, hasc (by omega) (by omega), by decide⟩, hx5]
  have b0 := bt_drop (i := 0) e0
  have b1 := bt_drop (i := 1) b0.2.2
  have b2 := bt_drop (i := 2) b1.2.2
  have b3 := bt_drop (i := 3) b2.2.2
  have b4 := bt_drop (i := 4) b3.2.2
  have b5 := bt_drop (i := 5) b4.2.2
  have hP (hasc : h.size ≤ 1024 → 6 ≤ h.size → asciiS (h.extract 0 5) = true) {r : ByteArray × ByteArray × Int} (hr : Ev (fun k => if Lib.equalFold [c0, c1, c2, c3, c4] [98, 97, 115, 105, 99] = true then client_Basic.j0 k h ((c5.toNat : Int) != 32) else client_Basic.j0 k h true) r) :
      Ev (fun k => if (h.size : Int) > 1024 then (client_Basic.j0 k h true) else (if (h.size : Int) < 6 then (client_Basic.j0 k h true) else (if 0 ≤ 5 then (if 5 ≤ (h.size : Int) then ((strings_EqualFold.f (h.extract 0 5) (⟨#[98, 97, 115, 105, 99]⟩ : ByteArray)).bind fun t209 => (if t209 = true then (if 5 < (h.size : Int) then (client_Basic.j0 k h ((bt h 5) != 32)) else (none)) else (client_Basic.j0 k h true))) else (none)) else (none)))) r := by
    refine Ev.neg h1 (Ev.neg h2 (Ev.pos (by omega) (Ev.pos (by omega) (Ev.bind (Ev.congr (fun _ => hEF hasc) (Ev.now _)) ?_))))
    refine Ev.congr (fun k => ?_) hr
    rw [if_pos (show (5 : Int) < (h.size : Int) from b5.1), show bt h 5 = (c5.toNat : Int) from b5.2.1]
  have hR {r : ByteArray × ByteArray × Int} (hr : Lib.equalFold [c0, c1, c2, c3, c4] [98, 97, 115, 105, 99] = true → Ev (fun k => wicketref11_Basic.l1 k h ((5 : Nat) : Int)) r) (he : Lib.equalFold [c0, c1, c2, c3, c4] [98, 97, 115, 105, 99] = false → r = E3) :
      Ev (fun k => if (h.size : Int) > 1024 then (wicketref11_Basic.j0 k h WB true) else (wicketref11_Basic.j0 k h WB (decide ((h.size : Int) < 6)))) r := by
    refine Ev.neg h1 ?_
    rw [decide_eq_false h2]
    refine Ev.step (f := fun k => wicketref11_Basic.l0 k h WB ((0 : Nat) : Int)) (fun k => by simp only [wicketref11_Basic.j0, Bool.false_eq_true, if_false]; rfl) ?_
    refine step_i h 0 (by omega) c0 98 ⟨b0.1, b0.2.1⟩ (by decide) (by decide) (fun f0 => ?_) (fun f0 => he (by simp [Lib.equalFold, f0]))
    refine step_i h 1 (by omega) c1 97 ⟨b1.1, b1.2.1⟩ (by decide) (by decide) (fun f1 => ?_) (fun f1 => he (by simp [Lib.equalFold, f1]))
    refine step_i h 2 (by omega) c2 115 ⟨b2.1, b2.2.1⟩ (by decide) (by decide) (fun f2 => ?_) (fun f2 => he (by simp [Lib.equalFold, f2]))
    refine step_i h 3 (by omega) c3 105 ⟨b3.1, b3.2.1⟩ (by decide) (by decide) (fun f3 => ?_) (fun f3 => he (by simp [Lib.equalFold, f3]))
    refine step_i h 4 (by omega) c4 99 ⟨b4.1, b4.2.1⟩ (by decide) (by decide) (fun f4 => ?_) (fun f4 => he (by simp [Lib.equalFold, f4]))
    refine Ev.step (fun k => ?_) (hr (by simp [Lib.equalFold, f0, f1, f2, f3, f4]))
    simp only [wicketref11_Basic.l0]
    rw [if_neg (by omega)]
    rfl
  by_cases hq' : Lib.equalFold [c0, c1, c2, c3, c4] [98, 97, 115, 105, 99] = false
  · have hq : ¬ Lib.equalFold [c0, c1, c2, c3, c4] [98, 97, 115, 105, 99] = true := by rw [hq']; decide
    exact ⟨E3, fun ha => hP ha (Ev.neg hq pj0), hR (fun e => absurd e hq) (fun _ => rfl), fun _ _ _ => rfl, by decide, by decide⟩
  have hq : Lib.equalFold [c0, c1, c2, c3, c4] [98, 97, 115, 105, 99] = true := by simpa using hq'
  let T : ByteArray := ⟨(Lib.trimLeftB (h.data.toList.drop 5) 32).toArray⟩
  have hTl : T.data.toList = (c5 :: l6).dropWhile (· == 32) := by show (Lib.trimLeftB (h.data.toList.drop 5) 32).toArray.toList = _; rw [b4.2.2]; rfl
  have hTs : T.size ≤ 1024 := by
    have e1 : T.size = T.data.toList.length := by simp
    have e2 : ((c5 :: l6).dropWhile (· == 32)).length ≤ (c5 :: l6).length := (List.dropWhile_sublist _).length_le
    have e3 : (c5 :: l6).length ≤ h.size := by rw [← hl, e0]; simp
    rw [e1, hTl]; omega
  obtain ⟨x, ok, y, ok', d1, d2, d3, d4, d5⟩ := dec_both T (by omega)
  subst d4
  refine ⟨if c5 = 32 ∧ ok = true then saidP x.data.toList else E3, fun ha => hP ha (Ev.pos hq ?_), hR (fun _ => ?_) (fun e => absurd hq (by simp [e])), fun _ _ hw => ?_, ?_⟩
  · by_cases h5 : c5 = 32
    · rw [show ((c5.toNat : Int) != 32) = false by rw [h5]; rfl]
      refine Ev.step (f := fun k => (client_common.f k T).bind fun bt211 => ((strings_Cut.f bt211.1 (⟨#[58]⟩ : ByteArray)).bind fun bt213 => ((urlform_Unescape.f bt213.1).bind fun bt216 => ((urlform_Unescape.f bt213.2.1).bind fun bt219 => (if bt211.2 = true then (if bt213.2.2 = true then (if bt216.2.1 = 0 then (if bt219.2.1 = 0 then (some (bt216.1, bt219.1, 0)) else (some ((⟨#[]⟩ : ByteArray), (⟨#[]⟩ : ByteArray), 113))) else (some ((⟨#[]⟩ : ByteArray), (⟨#[]⟩ : ByteArray), 113))) else (some ((⟨#[]⟩ : ByteArray), (⟨#[]⟩ : ByteArray), 113))) else (some ((⟨#[]⟩ : ByteArray), (⟨#[]⟩ : ByteArray), 113))))))) (fun k => ?_) ?_
      · simp only [client_Basic.j0, Bool.false_eq_true, if_false]
        rw [if_pos (by omega), show strings_TrimLeft.f (h.extract 5 h.size) (⟨#[32]⟩ : ByteArray) = some T from by
          unfold strings_TrimLeft.f
          rw [if_pos ⟨rfl, by decide⟩, Lib.extract_data, List.take_of_length_le (by rw [List.length_drop]; omega)]
          rfl, Option.bind_some]
      · refine Ev.bind d1 (Ev.congr (fun _ => tailP x ok d2) (Ev.eq (Ev.now _) ?_))
        by_cases ho : ok = true
        · rw [if_pos ho, if_pos ⟨h5, ho⟩]
        · rw [if_neg ho, if_neg (fun e => ho e.2)]
    · rw [if_neg (fun e => h5 e.1), show ((c5.toNat : Int) != 32) = true by
        rw [bne_iff_ne]; exact fun e => h5 (UInt8.toNat_inj.1 (by exact Int.ofNat.inj e))]
      exact pj0
  · refine l1r_ev h (by omega) _ 5 b4.2.2 (by omega) (fun j a b c e f => ?_)
    have hj : h.extract ((j : Int)).toNat h.size = T := by
      apply ba_ext
      rw [hTl, ← c, Lib.extract_data, Int.toNat_natCast, List.take_of_length_le (by rw [List.length_drop]; omega)]
    refine Ev.step (f := fun k => (wicketref11_decoded.f k T).bind fun bt466 => (if (j : Int) = 5 then (wicketref11_Basic.j5 k bt466.1 true) else (wicketref11_Basic.j5 k bt466.1 (!bt466.2)))) (fun k => ?_) (Ev.bind d3 ?_)
    · simp only [wicketref11_Basic.j4]
      rw [if_pos (by omega), if_pos (by omega), hj]
    · have j5e (z : ByteArray) : Ev (fun k => wicketref11_Basic.j5 k z true) E3 := Ev.step (f := fun _ => some E3) (fun k => by simp only [wicketref11_Basic.j5, if_true]) (Ev.now _)
      by_cases h5 : c5 = 32
      · have := e (by rw [h5]; rfl)
        refine Ev.neg (by omega) ?_
        by_cases ho : ok = true
        · rw [if_pos ⟨h5, ho⟩, ho]
          rw [← d5 ho]
          exact j5_yes x d2
        · rw [if_neg (fun e => ho e.2), show ok = false by simpa using ho]
          exact j5e y
      · have := f (fun e => h5 (Option.some.inj e))
        rw [if_neg (fun e => h5 e.1)]
        exact Ev.pos (by omega) (j5e y)
  · exfalso
    simp only [Lib.equalFold, Bool.and_eq_true, Bool.and_true] at hq
    have q0 := fold_ascii hq.1 (by decide)
    have q1 := fold_ascii hq.2.1 (by decide)
    have q2 := fold_ascii hq.2.2.1 (by decide)
    have q3 := fold_ascii hq.2.2.2.1 (by decide)
    have q4 := fold_ascii hq.2.2.2.2 (by decide)
    unfold asciiS at hw
    rw [hx5] at hw
    simp [q0, q1, q2, q3, q4] at hw
  · split
    · exact saidP_sz x d2
    · exact ⟨by decide, by decide⟩
end Go.Proofs.YtmimipgmhgalaaaGreatDoor.Pure
end
section
namespace Go.Proofs.YtmimipgmhgalaaaGreatDoor.PAll
open Go.RowKit Go.Proofs.YtmimipgmhgalaaaGreatDoor.Spec Go.Proofs.YtmimipgmhgalaaaGreatDoorW.PrintWords
end Go.Proofs.YtmimipgmhgalaaaGreatDoor.PAll
end
section
namespace Go.Proofs.YtmimipgmhgalaaaGreatDoor.PAll
open Go.RowKit Go.Proofs.YtmimipgmhgalaaaGreatDoor.Spec Go.Proofs.YtmimipgmhgalaaaGreatDoorW.PrintWords
set_option linter.unusedVariables false
structure PInv (w : World) (g : Nat) (p : S68) (bs : List Value) (W : World) : Prop where
  b : Lib.IsBuilder 88 5 w.heap.size w.heap.size bs W
  k : Below w.heap.size w W
  x : W.heap[g]? = some (.cells #[.string p.f0, .string p.f1] 68 (0, 0))
theorem isBuilder_below {T e B b : Nat} {bs : List Value} {W W' : World} (h : Lib.IsBuilder T e B b bs W) (hb : Below W.heap.size W W') : Lib.IsBuilder T e B b bs W' := by
  rcases h with ⟨h1, v, h2, h3, h4⟩ | ⟨h1, v, h2, h3, h4⟩
  · exact .inl ⟨h1, v, (hb.block b (Bld.lt_of h2)).trans h2, pw_own_below h3 hb, h4⟩
  · exact .inr ⟨h1, v, (hb.block b (Bld.lt_of h2)).trans h2, pw_own_below h3 hb, h4⟩
theorem PInv.step {w : World} {g : Nat} {p : S68} {bs : List Value} {W W' : World} (hb : Below W.heap.size W W') (h : PInv w g p bs W) : PInv w g p bs W' :=
  ⟨isBuilder_below h.b hb, h.k.trans (hb.mono h.k.size), (hb.block g (Bld.lt_of h.x)).trans h.x⟩
theorem PInv.drew {w : World} {g : Nat} {p : S68} {bs : List Value} {W : World} (h : PInv w g p bs W) : PInv w g p bs W.drew :=
  PInv.step ((Below.refl _ W).drew) h
theorem PInv.le {w : World} {g : Nat} {p : S68} {bs : List Value} {W : World} (h : PInv w g p bs W) : w.heap.size ≤ W.heap.size := h.k.size
theorem PInv.c0 {w : World} {g : Nat} {p : S68} {bs : List Value} {W : World} (h : PInv w g p bs W) : W.cell? ⟨g, 0, none⟩ = some (.string p.f0) := by rw [Lib.cell_of_heap h.x]; rfl
theorem PInv.c1 {w : World} {g : Nat} {p : S68} {bs : List Value} {W : World} (h : PInv w g p bs W) : W.cell? ⟨g, 1, none⟩ = some (.string p.f1) := by rw [Lib.cell_of_heap h.x]; rfl
end Go.Proofs.YtmimipgmhgalaaaGreatDoor.PAll
end
section
namespace Go.Proofs.YtmimipgmhgalaaaGreatDoor.Pure
open Go.RowKit Go.Proofs.YtmimipgmhgalaaaGreatDoorW.PrintWords Go.Proofs.YtmimipgmhgalaaaGreatDoor.Plain Go.Proofs.YtmimipgmhgalaaaGreatDoor.Spec Go.Proofs.YtmimipgmhgalaaaGreatDoor.PAll
set_option linter.unusedSimpArgs false
set_option linter.unusedVariables false
set_option maxRecDepth 100000 in
theorem esc_all : ∀ n : Fin 256, (hexI (hexD (n.val / 16)) = n.val / 16 ∧ hexI (hexD (n.val % 16)) = n.val % 16) ∧ (∀ b ∈ escB (UInt8.ofNat n.val), b ≠ 38 ∧ b ≠ 61) ∧ (plainB (UInt8.ofNat n.val) = true → 33 ≤ n.val ∧ n.val ≤ 126 ∧ n.val ≠ 43 ∧ n.val ≠ 37) := by decide +kernel
theorem unesc_esc : ∀ (l : List UInt8) (i : Nat) (acc : List UInt8), unescL (escL l) i acc = (acc ++ l, 0, 0)
  | [], i, acc => by simp [escL, unescL]
  | c :: l, i, acc => by
    have e : escL (c :: l) = escB c ++ escL l := by simp [escL]
    obtain ⟨⟨a1, a2⟩, _, a4⟩ := esc_all ⟨c.toNat, c.toNat_lt⟩
    simp only at a1 a2 a4
    rw [UInt8.ofNat_toNat] at a4
    rw [e]
    unfold escB
    by_cases h1 : c = 32
    · rw [if_pos h1]
      show unescL (43 :: escL l) i acc = _
      rw [unescL_plus _ _ _ _ rfl, unesc_esc l, h1]
      simp
    · rw [if_neg h1]
      by_cases h2 : plainB c = true
      · rw [if_pos h2]
        obtain ⟨b1, b2, b3, b4⟩ := a4 h2
        show unescL (c :: escL l) i acc = _
        rw [unescL_keep _ _ _ _ (by omega) (by rintro rfl; exact b3 rfl) (by rintro rfl; exact b4 rfl), unesc_esc l]
        simp
      · rw [if_neg h2]
        have hc := c.toNat_lt
        show unescL (37 :: hexD (c.toNat / 16) :: hexD (c.toNat % 16) :: escL l) i acc = _
        rw [unescL_hex 37 (hexD (c.toNat / 16)) (hexD (c.toNat % 16)) _ _ _ rfl (by rw [a1, a2]; omega), unesc_esc l, a1, a2]
        have e2 : (16 * ((c.toNat / 16 : Nat) : Int) + ((c.toNat % 16 : Nat) : Int)).toNat = c.toNat := by omega
        rw [show (16 * ((c.toNat : Int) / 16) + (c.toNat : Int) % 16).toNat = c.toNat by omega, UInt8.ofNat_toNat]
        simp
end Go.Proofs.YtmimipgmhgalaaaGreatDoor.Pure
end
section
namespace Go.Proofs.YtmimipgmhgalaaaGreatDoor.PAll
open Go.RowKit Go.Proofs.YtmimipgmhgalaaaGreatDoorW.PrintWords Go.Proofs.YtmimipgmhgalaaaGreatDoorW.PrintLast Go.Proofs.YtmimipgmhgalaaaGreatDoorW.PrintMore
attribute [local go_sem] max2_int min2_int max_two min_two max_three min_three max_four min_four
set_option linter.unusedVariables false
set_option linter.unusedSimpArgs false
def wicketref03_Print.T7 : Bool × List (List Nat × List Nat) := (true, [([], []), ([], []), ([], []), ([1, 2], [1, 2]), ([3], [3]), ([4], [4]), ([5], [5]), ([0, 6], [0, 6]), ([7], [7]), ([], []), ([], []), ([9, 10], [9, 10]), ([11], [11]), ([12], [12]), ([13, 6], [13]), ([8, 14], [8, 14]), ([15, 14, 0, 1, 2, 3, 4, 5, 6, 7, 8, 9, 10, 11, 12, 13, 14, 15], [0, 15])])
def wicketref03_Print.B7 : List Nat := [0, 0, 0, 6, 14, 30, 62, 127, 255, 0, 0, 1536, 3584, 7680, 15998, 32767, 65535]
theorem wicketref03_Print.tab7 : rtab .any (opsOf Tryz.f80 7) = wicketref03_Print.T7 := by kernel_rfl
theorem wicketref03_Print.bits7 : waitsOk wicketref03_Print.T7.2 wicketref03_Print.B7 = true := by kernel_rfl
end Go.Proofs.YtmimipgmhgalaaaGreatDoor.PAll
end
