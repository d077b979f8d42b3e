/-
  Part 2 of what the proof of ClientWelcome leans on: words of the print, walks of functions and plain laws; put together by pack.py, a program of this session.
-/
import Derived.Test.YtmimipgmhgalaaaGreatDoorProg
import Derived.Below
import Derived.Deep.Draws
import Derived.Deep.AppendLies
import Derived.Maps.AppendAt
import Derived.OwnWalk
import Derived.Laws.BytesArg
import Derived.Laws.MakeOwn
import Derived.Laws.OwnMore
import Derived.Deep.OwnRows
import Derived.Tactics
import Derived.Lib.ConvBytes
import Derived.Laws.Slices
import Derived.WalkKit
import Derived.KernelRfl
import Derived.RowKit3
import Derived.Deep.LoopGhost
import Derived.Deep.QuietTactic
import Derived.BigQuiet
import Derived.WideLaws
import Derived.Deep.DeepCutAuto
import Derived.Deep.CutBlock
import Derived.Deep.RegionHeld3
import Derived.Laws.Rows
import Derived.Lib.AppendStr
import Derived.ArgAppend
import Derived.Laws.IdiomCopy
import Derived.OrdersHeld
import Derived.Laws.BitsLemmas
import Derived.RowKit
import Derived.Shelf.Strings.Builder1
import Derived.Shelf.Strings.Builder2
import Derived.Shelf.Strings.OnBuilder
import Derived.Shelf.Strings.Trim
import Derived.Shelf.Small.Utf8
import Derived.Shelf.Small.Strs
import Derived.Shelf.Strings.BuilderF
import Derived.Shelf.Strings.BuilderK
import Derived.Shelf.Strings.Builder2Cap
import Derived.Shelf.Strings.Search1
import Derived.Shelf.Strings.Search2
import Derived.Shelf.Strings.Search3
import Derived.Shelf.Strings.Cut
import Derived.Shelf.Strings.Count
import Derived.Shelf.LaysM
import Derived.Shelf.Strings.Shaped
import Derived.Shelf.Sort.Plain
import Derived.Shelf.Strings.Prefix
import Derived.Shelf.Strings.Split
import Derived.Shelf.Strings.Replace
import Derived.Shelf.Strings.Fold
import Derived.Shelf.Strings.SplitShaped
import Derived.Shelf.Unicode.Decode
import Derived.Shelf.Strings.Runes
import Derived.Shelf.Strings.IndexAny
import Derived.Shelf.Strings.AsciiSet
import Derived.Shelf.Strings.IndexAnyAll
import Derived.Shelf.Unicode.DecodeSlow
import Derived.Shelf.Unicode.DecodeAny
import Derived.Shelf.Unicode.CaseLookup
import Derived.Shelf.Unicode.CaseConvert
import Derived.Shelf.Strings.BuilderCap
import Derived.Shelf.Slices.Turned
import Derived.Shelf.Slices.Equal
import Derived.Ground.Names2Prog
import Derived.Shelf.Slices.Clone
import Derived.Shelf.Slices.CompactS
import Derived.Shelf.Slices.In.SortNone
import Derived.Shelf.Slices.Empties2
import Derived.Shelf.Strings.SplitCore
import Derived.Lib.IndexBytes
import Derived.Lib.Hide
import Derived.RegionTactic
import Derived.Lib.Builder
import Derived.Lib.OthersKept
import Derived.Laws.Strings
import Derived.Deep.RegionWith
import Derived.Outline
import Derived.Sort.Walk0
import Derived.Lib.SplitLaws
import Derived.Lib.IndexMore
import Derived.Lib.SlicesCompact
import Derived.Maps.Own
import Derived.Test.YtmimipgmhgalaaaGreatDoorKClientWelcomea
section
namespace Go.Proofs.YtmimipgmhgalaaaGreatDoor.PAll
open Go.RowKit Go.Proofs.YtmimipgmhgalaaaGreatDoorW.PrintWords Go.Proofs.YtmimipgmhgalaaaGreatDoorW.PrintLast Go.Proofs.YtmimipgmhgalaaaGreatDoorW.PrintMore
attribute [local go_sem] max2_int min2_int max_two min_two max_three min_three max_four min_four
set_option linter.unusedVariables false
set_option linter.unusedSimpArgs false
def errW : Option Int → Value
  | none => .nilIface
  | some c => .iface 0 (.int .i64 c)
theorem errW_none : errW none = .nilIface := rfl
theorem errW_some (c : Int) : errW (some c) = .iface 0 (.int .i64 c) := rfl
theorem info3 : (Tryz.prog.info? 3).map (fun i => (i.zero, i.size, i.bytes)) = some (some (.int .i64 0), 1, 8) := by kernel_rfl
theorem info5 : (Tryz.prog.info? 5).map (fun i => (i.zero, i.size, i.bytes)) = some (some (.int .u8 0), 1, 1) := by kernel_rfl
theorem info9 : (Tryz.prog.info? 9).map (fun i => (i.zero, i.size, i.bytes)) = some (some (.string ⟨#[]⟩), 1, 16) := by kernel_rfl
theorem info40 : (Tryz.prog.info? 40).map (fun i => (i.zero, i.size, i.bytes)) = some (some (.agg #[(.string ⟨#[]⟩), (.string ⟨#[]⟩), (.int .i64 0), (.bool false), (.string ⟨#[]⟩), (.slice none 0 0)]), 6, 88) := by kernel_rfl
theorem info43 : (Tryz.prog.info? 43).map (fun i => (i.zero, i.size, i.bytes)) = some (some (.agg #[(.string ⟨#[]⟩), (.string ⟨#[]⟩), (.int .i64 0), (.bool false), (.string ⟨#[]⟩), (.slice none 0 0)]), 6, 88) := by kernel_rfl
theorem info68 : (Tryz.prog.info? 68).map (fun i => (i.zero, i.size, i.bytes)) = some (some (.agg #[(.string ⟨#[]⟩), (.string ⟨#[]⟩)]), 2, 32) := by kernel_rfl
structure S68 where
  f0 : ByteArray
  f1 : ByteArray
def z68 : S68 := ⟨(⟨#[]⟩ : ByteArray), (⟨#[]⟩ : ByteArray)⟩
def k68 : Kd S68 := Kd.iso (Kd.pair Kd.string Kd.string) (fun x : S68 => (x.f0, x.f1))
theorem k68_open {w : World} {x : S68} {cs : List Value} (h : k68.K w x cs) : cs = [.string x.f0, .string x.f1] := by
  obtain ⟨_, _, rfl, rfl, rfl⟩ := h
  exact rfl
theorem k68_mk (w : World) (x : S68)  : k68.K w x [.string x.f0, .string x.f1] := ⟨[.string x.f0], [.string x.f1], rfl, rfl, rfl⟩
theorem k68_mkM (w : World) (base : Nat) (ok : Nat → Prop) (x : S68)  : k68.M w base ok x [.string x.f0, .string x.f1] := ⟨[.string x.f0], [.string x.f1], rfl, rfl, rfl⟩
def rd_T68 (xs : List S68) (i : Int) : S68 := xs.getD i.toNat z68
theorem at_T68 {w : World} {A : Option Addr} {n : Nat} {xs : List S68} (h : Kd.C k68 w A n xs) (i : Int) (h0 : 0 ≤ i) (h1 : i < n) : ∃ ad , A = some ad ∧ w.cell? (ad.add (i.toNat * 2)) = some (.string (rd_T68 xs i).f0) ∧ w.cell? ⟨(ad.add (i.toNat * 2)).block, (ad.add (i.toNat * 2)).off + 1, none⟩ = some (.string (rd_T68 xs i).f1) := by
  obtain ⟨ad, c, e, _, hK, hc0⟩ := Kd.C_get h z68 i h0 h1
  have hc : ∀ j u, c[j]? = some u → w.cell? (ad.add (i.toNat * 2 + j)) = some u := hc0
  obtain rfl := k68_open hK
  exact ⟨ad, e, hc 0 _ rfl, by rw [← add_field _ _ 1 (by omega)]; exact hc 1 _ rfl⟩
structure S40 where
  f0 : ByteArray
  f1 : ByteArray
  f2 : Int
  f3 : Bool
  f4 : ByteArray
  f5 : (List ByteArray)
def z40 : S40 := ⟨(⟨#[]⟩ : ByteArray), (⟨#[]⟩ : ByteArray), (0 : Int), false, (⟨#[]⟩ : ByteArray), ([] : List ByteArray)⟩
def k40 : Kd S40 := Kd.iso (Kd.pair Kd.string (Kd.pair Kd.string (Kd.pair (Kd.int .i64) (Kd.pair Kd.bool (Kd.pair Kd.string (Kd.slice 9 Kd.string)))))) (fun x : S40 => (x.f0, x.f1, x.f2, x.f3, x.f4, x.f5))
theorem k40_open {w : World} {x : S40} {cs : List Value} (h : k40.K w x cs) : ∃ A5 c5, cs = [.string x.f0, .string x.f1, .int .i64 x.f2, .bool x.f3, .string x.f4, .slice A5 x.f5.length c5] ∧ x.f5.length ≤ c5 ∧ Kd.string.C w A5 x.f5.length x.f5 := by
  obtain ⟨_, _, rfl, rfl, ⟨_, _, rfl, rfl, ⟨_, _, rfl, rfl, ⟨_, _, rfl, rfl, ⟨_, _, rfl, rfl, ⟨A5, c5, rfl, l5, g5⟩⟩⟩⟩⟩⟩ := h
  exact ⟨A5, c5, rfl, l5, g5⟩
theorem k40_mkM (w : World) (base : Nat) (ok : Nat → Prop) (x : S40) {v5 : Value} (g5 : Kd.string.R 9 w base ok v5 x.f5) : k40.M w base ok x [.string x.f0, .string x.f1, .int .i64 x.f2, .bool x.f3, .string x.f4, v5] := ⟨[.string x.f0], [.string x.f1, .int .i64 x.f2, .bool x.f3, .string x.f4, v5], rfl, rfl, ⟨[.string x.f1], [.int .i64 x.f2, .bool x.f3, .string x.f4, v5], rfl, rfl, ⟨[.int .i64 x.f2], [.bool x.f3, .string x.f4, v5], rfl, rfl, ⟨[.bool x.f3], [.string x.f4, v5], rfl, rfl, ⟨[.string x.f4], [v5], rfl, rfl, ⟨v5, rfl, g5⟩⟩⟩⟩⟩⟩
def rd_T40 (xs : List S40) (i : Int) : S40 := xs.getD i.toNat z40
theorem at_T40 {w : World} {A : Option Addr} {n : Nat} {xs : List S40} (h : Kd.C k40 w A n xs) (i : Int) (h0 : 0 ≤ i) (h1 : i < n) : ∃ ad A5 c5, A = some ad ∧ w.cell? (ad.add (i.toNat * 6)) = some (.string (rd_T40 xs i).f0) ∧ w.cell? ⟨(ad.add (i.toNat * 6)).block, (ad.add (i.toNat * 6)).off + 1, none⟩ = some (.string (rd_T40 xs i).f1) ∧ w.cell? ⟨(ad.add (i.toNat * 6)).block, (ad.add (i.toNat * 6)).off + 2, none⟩ = some (.int .i64 (rd_T40 xs i).f2) ∧ w.cell? ⟨(ad.add (i.toNat * 6)).block, (ad.add (i.toNat * 6)).off + 3, none⟩ = some (.bool (rd_T40 xs i).f3) ∧ w.cell? ⟨(ad.add (i.toNat * 6)).block, (ad.add (i.toNat * 6)).off + 4, none⟩ = some (.string (rd_T40 xs i).f4) ∧ w.cell? ⟨(ad.add (i.toNat * 6)).block, (ad.add (i.toNat * 6)).off + 5, none⟩ = some (.slice A5 (rd_T40 xs i).f5.length c5) ∧ (rd_T40 xs i).f5.length ≤ c5 ∧ Kd.string.C w A5 (rd_T40 xs i).f5.length (rd_T40 xs i).f5 := by
  obtain ⟨ad, c, e, _, hK, hc0⟩ := Kd.C_get h z40 i h0 h1
  have hc : ∀ j u, c[j]? = some u → w.cell? (ad.add (i.toNat * 6 + j)) = some u := hc0
  obtain ⟨A5, c5, rfl, l5, g5⟩ := k40_open hK
  exact ⟨ad, A5, c5, e, hc 0 _ rfl, by rw [← add_field _ _ 1 (by omega)]; exact hc 1 _ rfl, by rw [← add_field _ _ 2 (by omega)]; exact hc 2 _ rfl, by rw [← add_field _ _ 3 (by omega)]; exact hc 3 _ rfl, by rw [← add_field _ _ 4 (by omega)]; exact hc 4 _ rfl, by rw [← add_field _ _ 5 (by omega)]; exact hc 5 _ rfl, l5, g5⟩
structure S121 where
  f0 : ByteArray
  f1 : ByteArray
structure S43 where
  f0 : ByteArray
  f1 : ByteArray
  f2 : Int
  f3 : Bool
  f4 : ByteArray
  f5 : (List ByteArray)
def z43 : S43 := ⟨(⟨#[]⟩ : ByteArray), (⟨#[]⟩ : ByteArray), (0 : Int), false, (⟨#[]⟩ : ByteArray), ([] : List ByteArray)⟩
def k43 : Kd S43 := Kd.iso (Kd.pair Kd.string (Kd.pair Kd.string (Kd.pair (Kd.int .i64) (Kd.pair Kd.bool (Kd.pair Kd.string (Kd.slice 9 Kd.string)))))) (fun x : S43 => (x.f0, x.f1, x.f2, x.f3, x.f4, x.f5))
theorem k43_open {w : World} {x : S43} {cs : List Value} (h : k43.K w x cs) : ∃ A5 c5, cs = [.string x.f0, .string x.f1, .int .i64 x.f2, .bool x.f3, .string x.f4, .slice A5 x.f5.length c5] ∧ x.f5.length ≤ c5 ∧ Kd.string.C w A5 x.f5.length x.f5 := by
  obtain ⟨_, _, rfl, rfl, ⟨_, _, rfl, rfl, ⟨_, _, rfl, rfl, ⟨_, _, rfl, rfl, ⟨_, _, rfl, rfl, ⟨A5, c5, rfl, l5, g5⟩⟩⟩⟩⟩⟩ := h
  exact ⟨A5, c5, rfl, l5, g5⟩
theorem k43_mkM (w : World) (base : Nat) (ok : Nat → Prop) (x : S43) {v5 : Value} (g5 : Kd.string.R 9 w base ok v5 x.f5) : k43.M w base ok x [.string x.f0, .string x.f1, .int .i64 x.f2, .bool x.f3, .string x.f4, v5] := ⟨[.string x.f0], [.string x.f1, .int .i64 x.f2, .bool x.f3, .string x.f4, v5], rfl, rfl, ⟨[.string x.f1], [.int .i64 x.f2, .bool x.f3, .string x.f4, v5], rfl, rfl, ⟨[.int .i64 x.f2], [.bool x.f3, .string x.f4, v5], rfl, rfl, ⟨[.bool x.f3], [.string x.f4, v5], rfl, rfl, ⟨[.string x.f4], [v5], rfl, rfl, ⟨v5, rfl, g5⟩⟩⟩⟩⟩⟩
theorem k43_openF {W : World} {ok : Nat → Prop} {x : S43} {cs : List Value} (h : Kd.FK k43 W ok x cs) : ∃ A5 c5, cs = [.string x.f0, .string x.f1, .int .i64 x.f2, .bool x.f3, .string x.f4, .slice A5 x.f5.length c5] ∧ x.f5.length ≤ c5 ∧ Kd.F Kd.string W ok A5 x.f5.length x.f5 := by
  obtain ⟨A5, c5, rfl, l5, _⟩ := k43_open (Kd.FK_now h)
  exact ⟨A5, c5, rfl, l5, (fun W' hW => by obtain ⟨A5_, c5_, he, l5_, g5_⟩ := k43_open (h W' hW); injection (Option.some.inj (show some (Value.slice A5 x.f5.length c5) = some (Value.slice A5_ x.f5.length c5_) from congrArg (fun l => l[5]?) he)) with ha_ _ _; rw [ha_]; exact g5_)⟩
def rd_T43 (xs : List S43) (i : Int) : S43 := xs.getD i.toNat z43
theorem at_T43 {w : World} {A : Option Addr} {n : Nat} {xs : List S43} (h : Kd.C k43 w A n xs) (i : Int) (h0 : 0 ≤ i) (h1 : i < n) : ∃ ad A5 c5, A = some ad ∧ w.cell? (ad.add (i.toNat * 6)) = some (.string (rd_T43 xs i).f0) ∧ w.cell? ⟨(ad.add (i.toNat * 6)).block, (ad.add (i.toNat * 6)).off + 1, none⟩ = some (.string (rd_T43 xs i).f1) ∧ w.cell? ⟨(ad.add (i.toNat * 6)).block, (ad.add (i.toNat * 6)).off + 2, none⟩ = some (.int .i64 (rd_T43 xs i).f2) ∧ w.cell? ⟨(ad.add (i.toNat * 6)).block, (ad.add (i.toNat * 6)).off + 3, none⟩ = some (.bool (rd_T43 xs i).f3) ∧ w.cell? ⟨(ad.add (i.toNat * 6)).block, (ad.add (i.toNat * 6)).off + 4, none⟩ = some (.string (rd_T43 xs i).f4) ∧ w.cell? ⟨(ad.add (i.toNat * 6)).block, (ad.add (i.toNat * 6)).off + 5, none⟩ = some (.slice A5 (rd_T43 xs i).f5.length c5) ∧ (rd_T43 xs i).f5.length ≤ c5 ∧ Kd.string.C w A5 (rd_T43 xs i).f5.length (rd_T43 xs i).f5 := by
  obtain ⟨ad, c, e, _, hK, hc0⟩ := Kd.C_get h z43 i h0 h1
  have hc : ∀ j u, c[j]? = some u → w.cell? (ad.add (i.toNat * 6 + j)) = some u := hc0
  obtain ⟨A5, c5, rfl, l5, g5⟩ := k43_open hK
  exact ⟨ad, A5, c5, e, hc 0 _ rfl, by rw [← add_field _ _ 1 (by omega)]; exact hc 1 _ rfl, by rw [← add_field _ _ 2 (by omega)]; exact hc 2 _ rfl, by rw [← add_field _ _ 3 (by omega)]; exact hc 3 _ rfl, by rw [← add_field _ _ 4 (by omega)]; exact hc 4 _ rfl, by rw [← add_field _ _ 5 (by omega)]; exact hc 5 _ rfl, l5, g5⟩
end Go.Proofs.YtmimipgmhgalaaaGreatDoor.PAll
end
section
namespace Go.Proofs.YtmimipgmhgalaaaGreatDoor.PAll
open Go.RowKit Go.Proofs.YtmimipgmhgalaaaGreatDoorW.PrintWords
variable {w : World} {g : Nat} {t : TypeId} {a0 a1 a2 a3 a4 a5 : Value}
theorem cz6_ (h : w.heap[g]? = some (.cells #[a0, a1, a2, a3, a4, a5] t (0, 0))) : w.cell? ⟨g, 0, none⟩ = some a0 ∧ w.cell? ⟨g, 1, none⟩ = some a1 ∧ w.cell? ⟨g, 2, none⟩ = some a2 ∧ w.cell? ⟨g, 3, none⟩ = some a3 ∧ w.cell? ⟨g, 4, none⟩ = some a4 ∧ w.cell? ⟨g, 5, none⟩ = some a5 ∧ w.frozen? ⟨g, 0, none⟩ = false ∧ w.frozen? ⟨g, 1, none⟩ = false ∧ w.frozen? ⟨g, 2, none⟩ = false ∧ w.frozen? ⟨g, 3, none⟩ = false ∧ w.frozen? ⟨g, 4, none⟩ = false ∧ w.frozen? ⟨g, 5, none⟩ = false :=
  ⟨(blk_cell h 0).trans rfl, (blk_cell h 1).trans rfl, (blk_cell h 2).trans rfl, (blk_cell h 3).trans rfl, (blk_cell h 4).trans rfl, (blk_cell h 5).trans rfl, blk_frozen h 0, blk_frozen h 1, blk_frozen h 2, blk_frozen h 3, blk_frozen h 4, blk_frozen h 5⟩
theorem put6_ (h : w.heap[g]? = some (.cells #[a0, a1, a2, a3, a4, a5] t (0, 0))) (b0 b1 b2 b3 b4 b5 : Value) :
    ((((((w.setCell ⟨g, 0, none⟩ b0).setCell ⟨g, 1, none⟩ b1).setCell ⟨g, 2, none⟩ b2).setCell ⟨g, 3, none⟩ b3).setCell ⟨g, 4, none⟩ b4).setCell ⟨g, 5, none⟩ b5).heap[g]? = some (.cells #[b0, b1, b2, b3, b4, b5] t (0, 0)) :=
  blk_put (blk_put (blk_put (blk_put (blk_put (blk_put h 0 b0 rfl) 1 b1 rfl) 2 b2 rfl) 3 b3 rfl) 4 b4 rfl) 5 b5 rfl
variable {α : Type} {d : Kd α} {e base : Nat} {ok : Nat → Prop} {v b0 b1 b2 b3 b4 b5 : Value} {xs : List α}
theorem R_far6 (h : d.R e w base ok v xs) (hok : ∀ k, ok k → k ≠ g) :
    d.R e ((((((w.setCell ⟨g, 0, none⟩ b0).setCell ⟨g, 1, none⟩ b1).setCell ⟨g, 2, none⟩ b2).setCell ⟨g, 3, none⟩ b3).setCell ⟨g, 4, none⟩ b4).setCell ⟨g, 5, none⟩ b5) base ok v xs :=
  Kd.R_far (p := ⟨g, 5, none⟩) (Kd.R_far (p := ⟨g, 4, none⟩) (Kd.R_far (p := ⟨g, 3, none⟩) (Kd.R_far (p := ⟨g, 2, none⟩) (Kd.R_far (p := ⟨g, 1, none⟩) (Kd.R_far (p := ⟨g, 0, none⟩) h hok _) hok _) hok _) hok _) hok _) hok _
theorem S_far6 (h : Kd.S d e w base ok v xs) (hok : ∀ k, ok k → k ≠ g) :
    Kd.S d e ((((((w.setCell ⟨g, 0, none⟩ b0).setCell ⟨g, 1, none⟩ b1).setCell ⟨g, 2, none⟩ b2).setCell ⟨g, 3, none⟩ b3).setCell ⟨g, 4, none⟩ b4).setCell ⟨g, 5, none⟩ b5) base ok v xs :=
  Kd.S_far (p := ⟨g, 5, none⟩) (Kd.S_far (p := ⟨g, 4, none⟩) (Kd.S_far (p := ⟨g, 3, none⟩) (Kd.S_far (p := ⟨g, 2, none⟩) (Kd.S_far (p := ⟨g, 1, none⟩) (Kd.S_far (p := ⟨g, 0, none⟩) h hok _) hok _) hok _) hok _) hok _) hok _
theorem V_far6 (h : Kd.V d e w base ok v xs) (hok : ∀ k, ok k → k ≠ g) :
    Kd.V d e ((((((w.setCell ⟨g, 0, none⟩ b0).setCell ⟨g, 1, none⟩ b1).setCell ⟨g, 2, none⟩ b2).setCell ⟨g, 3, none⟩ b3).setCell ⟨g, 4, none⟩ b4).setCell ⟨g, 5, none⟩ b5) base ok v xs :=
  Kd.V_far (p := ⟨g, 5, none⟩) (Kd.V_far (p := ⟨g, 4, none⟩) (Kd.V_far (p := ⟨g, 3, none⟩) (Kd.V_far (p := ⟨g, 2, none⟩) (Kd.V_far (p := ⟨g, 1, none⟩) (Kd.V_far (p := ⟨g, 0, none⟩) h hok _) hok _) hok _) hok _) hok _) hok _
end Go.Proofs.YtmimipgmhgalaaaGreatDoor.PAll
end
section
namespace Go.Proofs
open Go.Shelf
def Tryz.lays169_ren : Go.Shelf.Ren := ⟨fun | 169 => 48 | n => n, fun | 70 => 86 | 9 => 9 | 0 => 0 | 72 => 88 | 37 => 79 | 127 => 128 | 3 => 3 | 5 => 5 | n => n, fun | n => n⟩
theorem Tryz.lays169 : Go.Proofs.Lays.n169 Tryz.prog Tryz.lays169_ren := {
  mixed := by kernel_rfl
  f169 := Tryz.func48.trans (congrArg some (by kernel_rfl))
  t0 := Tryz.underlying0
  a0 := Tryz.isAgg0
  z0 := Tryz.sizeOf0
  v0 := Tryz.zeroValue0
  t3 := Tryz.underlying3
  a3 := Tryz.isAgg3
  z3 := Tryz.sizeOf3
  v3 := Tryz.zeroValue3
  t9 := Tryz.underlying9
  a9 := Tryz.isAgg9
  z9 := Tryz.sizeOf9
  v9 := Tryz.zeroValue9
  t37 := Tryz.underlying79
  a37 := Tryz.isAgg79
  z37 := Tryz.sizeOf79
  v37 := Tryz.zeroValue79
  t70 := Tryz.underlying86
  a70 := Tryz.isAgg86
  z70 := Tryz.sizeOf86
  v70 := Tryz.zeroValue86
  t72 := Tryz.underlying88
  a72 := Tryz.isAgg88
  z72 := Tryz.sizeOf88
  v72 := Tryz.zeroValue88
  t127 := Tryz.underlying128
  a127 := Tryz.isAgg128
  z127 := Tryz.sizeOf128
  v127 := Tryz.zeroValue128 }
theorem Tryz.Builder_Extra_169 : Builder.Extra Tryz.prog Tryz.lays169_ren := {
  sizeBuilder := by kernel_rfl
  liesBuilder := by kernel_rfl
  t5 := Tryz.underlying5
  a5 := Tryz.isAgg5
  z5 := Tryz.sizeOf5
  v5 := Tryz.zeroValue5
  infoByte := by kernel_rfl
  cellsByte := by kernel_rfl
  sizeByte := by kernel_rfl
  neB5 := by decide }
open Go.RowKit in
theorem Tryz.Builder_String_any (B b : Nat) (l : List UInt8) (w : World) (h : Lib.IsBuilder 88 5 B b (Lib.byteCells l) w) (hBw : B ≤ w.heap.size) :
    Calls Tryz.prog 48 #[.pointer (some ⟨b, 0, none⟩)] w fun e w' => e = .returned (.string ⟨l.toArray⟩) ∧ Below B w w' := Any.Builder_String_any Tryz.lays169 Tryz.Builder_Extra_169 B b l w h hBw
def Tryz.lays165_ren : Go.Shelf.Ren := ⟨fun | 165 => 90 | 240 => 76 | 241 => 125 | 276 => 111 | 277 => 153 | n => n, fun | 70 => 86 | 3 => 3 | 0 => 0 | 4 => 4 | 9 => 9 | 20 => 20 | 72 => 88 | 37 => 79 | 164 => 164 | 5 => 5 | n => n, fun | n => n⟩
theorem Tryz.lays165 : Go.Proofs.Lays.n165 Tryz.prog Tryz.lays165_ren := {
  mixed := by kernel_rfl
  f165 := Tryz.func90.trans (congrArg some (by kernel_rfl))
  f240 := Tryz.func76.trans (congrArg some (by kernel_rfl))
  f241 := Tryz.func125.trans (congrArg some (by kernel_rfl))
  f276 := Tryz.func111.trans (congrArg some (by kernel_rfl))
  f277 := Tryz.func153.trans (congrArg some (by kernel_rfl))
  t0 := Tryz.underlying0
  a0 := Tryz.isAgg0
  z0 := Tryz.sizeOf0
  v0 := Tryz.zeroValue0
  t3 := Tryz.underlying3
  a3 := Tryz.isAgg3
  z3 := Tryz.sizeOf3
  v3 := Tryz.zeroValue3
  t4 := Tryz.underlying4
  a4 := Tryz.isAgg4
  z4 := Tryz.sizeOf4
  v4 := Tryz.zeroValue4
  t9 := Tryz.underlying9
  a9 := Tryz.isAgg9
  z9 := Tryz.sizeOf9
  v9 := Tryz.zeroValue9
  t20 := Tryz.underlying20
  a20 := Tryz.isAgg20
  z20 := Tryz.sizeOf20
  v20 := Tryz.zeroValue20
  t37 := Tryz.underlying79
  a37 := Tryz.isAgg79
  z37 := Tryz.sizeOf79
  v37 := Tryz.zeroValue79
  t70 := Tryz.underlying86
  a70 := Tryz.isAgg86
  z70 := Tryz.sizeOf86
  v70 := Tryz.zeroValue86
  t72 := Tryz.underlying88
  a72 := Tryz.isAgg88
  z72 := Tryz.sizeOf88
  v72 := Tryz.zeroValue88
  t164 := Tryz.underlying164
  a164 := Tryz.isAgg164
  z164 := Tryz.sizeOf164
  v164 := Tryz.zeroValue164 }
theorem Tryz.Builder_Extra_165 : Builder.Extra Tryz.prog Tryz.lays165_ren := {
  sizeBuilder := by kernel_rfl
  liesBuilder := by kernel_rfl
  t5 := Tryz.underlying5
  a5 := Tryz.isAgg5
  z5 := Tryz.sizeOf5
  v5 := Tryz.zeroValue5
  infoByte := by kernel_rfl
  cellsByte := by kernel_rfl
  sizeByte := by kernel_rfl
  neB5 := by decide }
open Go.RowKit in
theorem Tryz.Builder_Grow_fresh (B b n : Nat) (w : World) (hB : B ≤ b) (hbk : w.heap[b]? = some (.cells #[.pointer none, .slice none 0 0] 88 (0, 0))) (hBw : B ≤ w.heap.size) (hn : n ≤ 281474976710656) :
    Calls Tryz.prog 90 #[.pointer (some ⟨b, 0, none⟩), .int .i64 n] w fun e w' => e = .returned (.tuple #[]) ∧ (Lib.BuilderAt 88 5 B b (.pointer (some ⟨b, 0, none⟩)) [] w' ∧ Below B w w') := Any.Builder_Grow_fresh Tryz.lays165 Tryz.Builder_Extra_165 B b n w hB hbk hBw hn
def Tryz.lays156_ren : Go.Shelf.Ren := ⟨fun | 156 => 55 | 165 => 90 | 166 => 45 | 169 => 48 | 240 => 76 | 241 => 125 | 276 => 111 | 277 => 153 | n => n, fun | 31 => 38 | 9 => 9 | 3 => 3 | 4 => 4 | 0 => 0 | 20 => 20 | 72 => 88 | 76 => 91 | 70 => 86 | 37 => 79 | 75 => 90 | 127 => 128 | 164 => 164 | 5 => 5 | 80 => 95 | n => n, fun | n => n⟩
theorem Tryz.lays156 : Go.Proofs.Lays.n156 Tryz.prog Tryz.lays156_ren := {
  mixed := by kernel_rfl
  f156 := Tryz.func55.trans (congrArg some (by kernel_rfl))
  f165 := Tryz.func90.trans (congrArg some (by kernel_rfl))
  f166 := Tryz.func45.trans (congrArg some (by kernel_rfl))
  f169 := Tryz.func48.trans (congrArg some (by kernel_rfl))
  f240 := Tryz.func76.trans (congrArg some (by kernel_rfl))
  f241 := Tryz.func125.trans (congrArg some (by kernel_rfl))
  f276 := Tryz.func111.trans (congrArg some (by kernel_rfl))
  f277 := Tryz.func153.trans (congrArg some (by kernel_rfl))
  t0 := Tryz.underlying0
  a0 := Tryz.isAgg0
  z0 := Tryz.sizeOf0
  v0 := Tryz.zeroValue0
  t3 := Tryz.underlying3
  a3 := Tryz.isAgg3
  z3 := Tryz.sizeOf3
  v3 := Tryz.zeroValue3
  t4 := Tryz.underlying4
  a4 := Tryz.isAgg4
  z4 := Tryz.sizeOf4
  v4 := Tryz.zeroValue4
  t9 := Tryz.underlying9
  a9 := Tryz.isAgg9
  z9 := Tryz.sizeOf9
  v9 := Tryz.zeroValue9
  t20 := Tryz.underlying20
  a20 := Tryz.isAgg20
  z20 := Tryz.sizeOf20
  v20 := Tryz.zeroValue20
  t31 := Tryz.underlying38
  a31 := Tryz.isAgg38
  z31 := Tryz.sizeOf38
  v31 := Tryz.zeroValue38
  t37 := Tryz.underlying79
  a37 := Tryz.isAgg79
  z37 := Tryz.sizeOf79
  v37 := Tryz.zeroValue79
  t70 := Tryz.underlying86
  a70 := Tryz.isAgg86
  z70 := Tryz.sizeOf86
  v70 := Tryz.zeroValue86
  t72 := Tryz.underlying88
  a72 := Tryz.isAgg88
  z72 := Tryz.sizeOf88
  v72 := Tryz.zeroValue88
  t75 := Tryz.underlying90
  a75 := Tryz.isAgg90
  z75 := Tryz.sizeOf90
  v75 := Tryz.zeroValue90
  t76 := Tryz.underlying91
  a76 := Tryz.isAgg91
  z76 := Tryz.sizeOf91
  v76 := Tryz.zeroValue91
  t127 := Tryz.underlying128
  a127 := Tryz.isAgg128
  z127 := Tryz.sizeOf128
  v127 := Tryz.zeroValue128
  t164 := Tryz.underlying164
  a164 := Tryz.isAgg164
  z164 := Tryz.sizeOf164
  v164 := Tryz.zeroValue164 }
theorem Tryz.Builder_Extra_156 : Builder.Extra Tryz.prog Tryz.lays156_ren := {
  sizeBuilder := by kernel_rfl
  liesBuilder := by kernel_rfl
  t5 := Tryz.underlying5
  a5 := Tryz.isAgg5
  z5 := Tryz.sizeOf5
  v5 := Tryz.zeroValue5
  infoByte := by kernel_rfl
  cellsByte := by kernel_rfl
  sizeByte := by kernel_rfl
  neB5 := by decide }
open Go.RowKit in
theorem Tryz.strings_Join_none (a : Option Addr) (c : Nat) (sep : ByteArray) (w : World) :
    Calls Tryz.prog 55 #[.slice a 0 c, .string sep] w fun e w' => e = .returned (.string ⟨#[]⟩) ∧ w' = w := Any.strings_Join_none Tryz.lays156 Tryz.Builder_Extra_156 a c sep w
open Go.RowKit in
theorem Tryz.strings_Join (bk o c : Nat) (xs : List ByteArray) (sep : ByteArray) (w : World) (hcells : ∀ (j : Nat) x, xs[j]? = some x → w.cell? ⟨bk, o + j, none⟩ = some (.string x)) (hbk : bk < w.heap.size) (hN : xs.length ≤ 140737488355328) (hcap : xs.length ≤ c) (hlen : (Lib.join (xs.map (·.data.toList)) sep.data.toList).length ≤ 140737488355328) :
    Calls Tryz.prog 55 #[.slice (some ⟨bk, o, none⟩) xs.length c, .string sep] w fun e w' => e = .returned (.string ⟨(Lib.join (xs.map (·.data.toList)) sep.data.toList).toArray⟩) ∧ Below w.heap.size w w' := Any.strings_Join Tryz.lays156 Tryz.Builder_Extra_156 bk o c xs sep w hcells hbk hN hcap hlen
def Tryz.lays161_ren : Go.Shelf.Ren := ⟨fun | 161 => 64 | 231 => 100 | 227 => 101 | 233 => 102 | 235 => 103 | 228 => 134 | 197 => 94 | 151 => 135 | 260 => 127 | 152 => 154 | 137 => 168 | 119 => 169 | 224 => 160 | 225 => 159 | 217 => 158 | 266 => 170 | n => n, fun | 9 => 9 | 4 => 4 | 3 => 3 | 5 => 5 | 117 => 157 | 116 => 156 | 0 => 0 | 124 => 160 | 105 => 148 | 21 => 21 | 119 => 203 | 46 => 171 | 139 => 206 | 138 => 205 | n => n, fun | 3 => 3 | 4 => 4 | n => n⟩
theorem Tryz.lays161 : Go.Proofs.Lays.n161 Tryz.prog Tryz.lays161_ren := {
  mixed := by kernel_rfl
  f119 := Tryz.func169.trans (congrArg some (by kernel_rfl))
  f137 := Tryz.func168.trans (congrArg some (by kernel_rfl))
  f151 := Tryz.func135.trans (congrArg some (by kernel_rfl))
  f152 := Tryz.func154.trans (congrArg some (by kernel_rfl))
  f161 := Tryz.func64.trans (congrArg some (by kernel_rfl))
  f197 := Tryz.func94.trans (congrArg some (by kernel_rfl))
  f217 := Tryz.func158.trans (congrArg some (by kernel_rfl))
  f224 := Tryz.func160.trans (congrArg some (by kernel_rfl))
  f225 := Tryz.func159.trans (congrArg some (by kernel_rfl))
  f227 := Tryz.func101.trans (congrArg some (by kernel_rfl))
  f228 := Tryz.func134.trans (congrArg some (by kernel_rfl))
  f231 := Tryz.func100.trans (congrArg some (by kernel_rfl))
  f233 := Tryz.func102.trans (congrArg some (by kernel_rfl))
  f235 := Tryz.func103.trans (congrArg some (by kernel_rfl))
  f260 := Tryz.func127.trans (congrArg some (by kernel_rfl))
  f266 := Tryz.func170.trans (congrArg some (by kernel_rfl))
  t0 := Tryz.underlying0
  a0 := Tryz.isAgg0
  z0 := Tryz.sizeOf0
  v0 := Tryz.zeroValue0
  t3 := Tryz.underlying3
  a3 := Tryz.isAgg3
  z3 := Tryz.sizeOf3
  v3 := Tryz.zeroValue3
  t4 := Tryz.underlying4
  a4 := Tryz.isAgg4
  z4 := Tryz.sizeOf4
  v4 := Tryz.zeroValue4
  t5 := Tryz.underlying5
  a5 := Tryz.isAgg5
  z5 := Tryz.sizeOf5
  v5 := Tryz.zeroValue5
  t9 := Tryz.underlying9
  a9 := Tryz.isAgg9
  z9 := Tryz.sizeOf9
  v9 := Tryz.zeroValue9
  t21 := Tryz.underlying21
  a21 := Tryz.isAgg21
  z21 := Tryz.sizeOf21
  v21 := Tryz.zeroValue21
  t46 := Tryz.underlying171
  a46 := Tryz.isAgg171
  z46 := Tryz.sizeOf171
  v46 := Tryz.zeroValue171
  t105 := Tryz.underlying148
  a105 := Tryz.isAgg148
  z105 := Tryz.sizeOf148
  v105 := Tryz.zeroValue148
  t116 := Tryz.underlying156
  a116 := Tryz.isAgg156
  z116 := Tryz.sizeOf156
  t117 := Tryz.underlying157
  a117 := Tryz.isAgg157
  z117 := Tryz.sizeOf157
  v117 := Tryz.zeroValue157
  t119 := Tryz.underlying203
  a119 := Tryz.isAgg203
  z119 := Tryz.sizeOf203
  t124 := Tryz.underlying160
  a124 := Tryz.isAgg160
  z124 := Tryz.sizeOf160
  v124 := Tryz.zeroValue160
  t138 := Tryz.underlying205
  a138 := Tryz.isAgg205
  z138 := Tryz.sizeOf205
  v138 := Tryz.zeroValue205
  t139 := Tryz.underlying206
  a139 := Tryz.isAgg206
  z139 := Tryz.sizeOf206
  v139 := Tryz.zeroValue206
  g3 := by kernel_rfl
  g4 := by kernel_rfl }
open Go.RowKit in
theorem Tryz.strings_TrimLeft_one (s : ByteArray) (c : UInt8) (hc : c.toNat < 128) (w : World) :
    Calls Tryz.prog 64 #[.string s, .string ⟨#[c]⟩] w fun e w' => e = .returned (.string ⟨(Lib.trimLeftB s.data.toList c).toArray⟩) ∧ w' = w := Any.strings_TrimLeft_one Tryz.lays161 s c hc w
def Tryz.lays219_ren : Go.Shelf.Ren := ⟨fun | 219 => 136 | 217 => 158 | 225 => 159 | 224 => 160 | 267 => 161 | 266 => 170 | 314 => 171 | n => n, fun | 9 => 9 | 3 => 3 | 4 => 4 | 5 => 5 | 46 => 171 | 146 => 221 | 51 => 199 | n => n, fun | 1 => 5 | n => n⟩
theorem Tryz.lays219 : Go.Proofs.Lays.n219 Tryz.prog Tryz.lays219_ren := {
  mixed := by kernel_rfl
  f217 := Tryz.func158.trans (congrArg some (by kernel_rfl))
  f219 := Tryz.func136.trans (congrArg some (by kernel_rfl))
  f224 := Tryz.func160.trans (congrArg some (by kernel_rfl))
  f225 := Tryz.func159.trans (congrArg some (by kernel_rfl))
  f266 := Tryz.func170.trans (congrArg some (by kernel_rfl))
  f267 := Tryz.func161.trans (congrArg some (by kernel_rfl))
  f314 := Tryz.func171.trans (congrArg some (by kernel_rfl))
  t3 := Tryz.underlying3
  a3 := Tryz.isAgg3
  z3 := Tryz.sizeOf3
  v3 := Tryz.zeroValue3
  t4 := Tryz.underlying4
  a4 := Tryz.isAgg4
  z4 := Tryz.sizeOf4
  v4 := Tryz.zeroValue4
  t5 := Tryz.underlying5
  a5 := Tryz.isAgg5
  z5 := Tryz.sizeOf5
  v5 := Tryz.zeroValue5
  t9 := Tryz.underlying9
  a9 := Tryz.isAgg9
  z9 := Tryz.sizeOf9
  v9 := Tryz.zeroValue9
  t46 := Tryz.underlying171
  a46 := Tryz.isAgg171
  z46 := Tryz.sizeOf171
  v46 := Tryz.zeroValue171
  t51 := Tryz.underlying199
  a51 := Tryz.isAgg199
  z51 := Tryz.sizeOf199
  v51 := Tryz.zeroValue199
  t146 := Tryz.underlying221
  a146 := Tryz.isAgg221
  z146 := Tryz.sizeOf221
  v146 := Tryz.zeroValue221
  g1 := by kernel_rfl }
open Go.RowKit Go.Lib in
theorem Tryz.stringslite_Index_one (s : ByteArray) (c : UInt8) (w : World) :
    Calls Tryz.prog 136 #[.string s, .string ⟨#[c]⟩] w fun e w' => e = .returned (.int .i64 (Lib.indexByte s.data.toList c)) ∧ w' = w := Any.stringslite_Index_one Tryz.lays219 s c w
def Tryz.lays143_ren : Go.Shelf.Ren := ⟨fun | 143 => 116 | 219 => 136 | 217 => 158 | 225 => 159 | 224 => 160 | 267 => 161 | 266 => 170 | 314 => 171 | n => n, fun | 9 => 9 | 3 => 3 | 4 => 4 | 5 => 5 | 46 => 171 | 146 => 221 | 51 => 199 | n => n, fun | 1 => 5 | n => n⟩
theorem Tryz.lays143 : Go.Proofs.Lays.n143 Tryz.prog Tryz.lays143_ren := {
  mixed := by kernel_rfl
  f143 := Tryz.func116.trans (congrArg some (by kernel_rfl))
  f217 := Tryz.func158.trans (congrArg some (by kernel_rfl))
  f219 := Tryz.func136.trans (congrArg some (by kernel_rfl))
  f224 := Tryz.func160.trans (congrArg some (by kernel_rfl))
  f225 := Tryz.func159.trans (congrArg some (by kernel_rfl))
  f266 := Tryz.func170.trans (congrArg some (by kernel_rfl))
  f267 := Tryz.func161.trans (congrArg some (by kernel_rfl))
  f314 := Tryz.func171.trans (congrArg some (by kernel_rfl))
  t3 := Tryz.underlying3
  a3 := Tryz.isAgg3
  z3 := Tryz.sizeOf3
  v3 := Tryz.zeroValue3
  t4 := Tryz.underlying4
  a4 := Tryz.isAgg4
  z4 := Tryz.sizeOf4
  v4 := Tryz.zeroValue4
  t5 := Tryz.underlying5
  a5 := Tryz.isAgg5
  z5 := Tryz.sizeOf5
  v5 := Tryz.zeroValue5
  t9 := Tryz.underlying9
  a9 := Tryz.isAgg9
  z9 := Tryz.sizeOf9
  v9 := Tryz.zeroValue9
  t46 := Tryz.underlying171
  a46 := Tryz.isAgg171
  z46 := Tryz.sizeOf171
  v46 := Tryz.zeroValue171
  t51 := Tryz.underlying199
  a51 := Tryz.isAgg199
  z51 := Tryz.sizeOf199
  v51 := Tryz.zeroValue199
  t146 := Tryz.underlying221
  a146 := Tryz.isAgg221
  z146 := Tryz.sizeOf221
  v146 := Tryz.zeroValue221
  g1 := by kernel_rfl }
open Go.RowKit Go.Lib in
theorem Tryz.strings_Index_one (s : ByteArray) (c : UInt8) (w : World) :
    Calls Tryz.prog 116 #[.string s, .string ⟨#[c]⟩] w fun e w' => e = .returned (.int .i64 (Lib.indexByte s.data.toList c)) ∧ w' = w := Any.strings_Index_one Tryz.lays143 s c w
def Tryz.lays138_ren : Go.Shelf.Ren := ⟨fun | 138 => 115 | 195 => 140 | 218 => 141 | 143 => 116 | 219 => 136 | 217 => 158 | 225 => 159 | 224 => 160 | 267 => 161 | 266 => 170 | 314 => 171 | n => n, fun | 9 => 9 | 3 => 3 | 4 => 4 | 5 => 5 | 0 => 0 | 46 => 171 | 146 => 221 | 51 => 199 | n => n, fun | 1 => 5 | n => n⟩
theorem Tryz.lays138 : Go.Proofs.Lays.n138 Tryz.prog Tryz.lays138_ren := {
  mixed := by kernel_rfl
  f138 := Tryz.func115.trans (congrArg some (by kernel_rfl))
  f143 := Tryz.func116.trans (congrArg some (by kernel_rfl))
  f195 := Tryz.func140.trans (congrArg some (by kernel_rfl))
  f217 := Tryz.func158.trans (congrArg some (by kernel_rfl))
  f218 := Tryz.func141.trans (congrArg some (by kernel_rfl))
  f219 := Tryz.func136.trans (congrArg some (by kernel_rfl))
  f224 := Tryz.func160.trans (congrArg some (by kernel_rfl))
  f225 := Tryz.func159.trans (congrArg some (by kernel_rfl))
  f266 := Tryz.func170.trans (congrArg some (by kernel_rfl))
  f267 := Tryz.func161.trans (congrArg some (by kernel_rfl))
  f314 := Tryz.func171.trans (congrArg some (by kernel_rfl))
  t0 := Tryz.underlying0
  a0 := Tryz.isAgg0
  z0 := Tryz.sizeOf0
  v0 := Tryz.zeroValue0
  t3 := Tryz.underlying3
  a3 := Tryz.isAgg3
  z3 := Tryz.sizeOf3
  v3 := Tryz.zeroValue3
  t4 := Tryz.underlying4
  a4 := Tryz.isAgg4
  z4 := Tryz.sizeOf4
  v4 := Tryz.zeroValue4
  t5 := Tryz.underlying5
  a5 := Tryz.isAgg5
  z5 := Tryz.sizeOf5
  v5 := Tryz.zeroValue5
  t9 := Tryz.underlying9
  a9 := Tryz.isAgg9
  z9 := Tryz.sizeOf9
  v9 := Tryz.zeroValue9
  t46 := Tryz.underlying171
  a46 := Tryz.isAgg171
  z46 := Tryz.sizeOf171
  v46 := Tryz.zeroValue171
  t51 := Tryz.underlying199
  a51 := Tryz.isAgg199
  z51 := Tryz.sizeOf199
  v51 := Tryz.zeroValue199
  t146 := Tryz.underlying221
  a146 := Tryz.isAgg221
  z146 := Tryz.sizeOf221
  v146 := Tryz.zeroValue221
  g1 := by kernel_rfl }
open Go.RowKit Go.Lib in
theorem Tryz.strings_Count_one (s : ByteArray) (c : UInt8) (w : World) :
    Calls Tryz.prog 115 #[.string s, .string ⟨#[c]⟩] w fun e w' => e = .returned (.int .i64 (Lib.countByte s.data.toList c)) ∧ w' = w := Any.strings_Count_one Tryz.lays138 s c w
def Tryz.lays190_ren : Go.Shelf.Ren := ⟨fun | 190 => 88 | 125 => 124 | 258 => 123 | 128 => 151 | 129 => 152 | 302 => 142 | 303 => 143 | 304 => 144 | 305 => 145 | 306 => 146 | 307 => 147 | 308 => 148 | 309 => 149 | 310 => 150 | 333 => 162 | 329 => 163 | 330 => 164 | 334 => 165 | 335 => 166 | 336 => 167 | 344 => 172 | n => n, fun | 31 => 38 | 9 => 9 | 3 => 3 | 46 => 171 | 0 => 0 | 51 => 199 | 53 => 201 | 4 => 4 | 183 => 192 | 182 => 191 | 131 => 196 | 5 => 5 | 218 => 214 | 222 => 218 | 228 => 223 | 229 => 224 | n => n, fun | n => n⟩
theorem Tryz.lays190 : Go.Proofs.Lays.n190 Tryz.prog Tryz.lays190_ren := {
  mixed := by kernel_rfl
  f125 := Tryz.func124.trans (congrArg some (by kernel_rfl))
  f128 := Tryz.func151.trans (congrArg some (by kernel_rfl))
  f129 := Tryz.func152.trans (congrArg some (by kernel_rfl))
  f190 := Tryz.func88.trans (congrArg some (by kernel_rfl))
  f258 := Tryz.func123.trans (congrArg some (by kernel_rfl))
  f302 := Tryz.func142.trans (congrArg some (by kernel_rfl))
  f303 := Tryz.func143.trans (congrArg some (by kernel_rfl))
  f304 := Tryz.func144.trans (congrArg some (by kernel_rfl))
  f305 := Tryz.func145.trans (congrArg some (by kernel_rfl))
  f306 := Tryz.func146.trans (congrArg some (by kernel_rfl))
  f307 := Tryz.func147.trans (congrArg some (by kernel_rfl))
  f308 := Tryz.func148.trans (congrArg some (by kernel_rfl))
  f309 := Tryz.func149.trans (congrArg some (by kernel_rfl))
  f310 := Tryz.func150.trans (congrArg some (by kernel_rfl))
  f329 := Tryz.func163.trans (congrArg some (by kernel_rfl))
  f330 := Tryz.func164.trans (congrArg some (by kernel_rfl))
  f333 := Tryz.func162.trans (congrArg some (by kernel_rfl))
  f334 := Tryz.func165.trans (congrArg some (by kernel_rfl))
  f335 := Tryz.func166.trans (congrArg some (by kernel_rfl))
  f336 := Tryz.func167.trans (congrArg some (by kernel_rfl))
  f344 := Tryz.func172.trans (congrArg some (by kernel_rfl))
  t0 := Tryz.underlying0
  a0 := Tryz.isAgg0
  z0 := Tryz.sizeOf0
  v0 := Tryz.zeroValue0
  t3 := Tryz.underlying3
  a3 := Tryz.isAgg3
  z3 := Tryz.sizeOf3
  v3 := Tryz.zeroValue3
  t4 := Tryz.underlying4
  a4 := Tryz.isAgg4
  z4 := Tryz.sizeOf4
  v4 := Tryz.zeroValue4
  t5 := Tryz.underlying5
  a5 := Tryz.isAgg5
  z5 := Tryz.sizeOf5
  v5 := Tryz.zeroValue5
  t9 := Tryz.underlying9
  a9 := Tryz.isAgg9
  z9 := Tryz.sizeOf9
  v9 := Tryz.zeroValue9
  t31 := Tryz.underlying38
  a31 := Tryz.isAgg38
  z31 := Tryz.sizeOf38
  v31 := Tryz.zeroValue38
  t46 := Tryz.underlying171
  a46 := Tryz.isAgg171
  z46 := Tryz.sizeOf171
  v46 := Tryz.zeroValue171
  t51 := Tryz.underlying199
  a51 := Tryz.isAgg199
  z51 := Tryz.sizeOf199
  v51 := Tryz.zeroValue199
  t53 := Tryz.underlying201
  a53 := Tryz.isAgg201
  z53 := Tryz.sizeOf201
  v53 := Tryz.zeroValue201
  t131 := Tryz.underlying196
  a131 := Tryz.isAgg196
  z131 := Tryz.sizeOf196
  v131 := Tryz.zeroValue196
  t182 := Tryz.underlying191
  a182 := Tryz.isAgg191
  z182 := Tryz.sizeOf191
  v182 := Tryz.zeroValue191
  t183 := Tryz.underlying192
  a183 := Tryz.isAgg192
  z183 := Tryz.sizeOf192
  v183 := Tryz.zeroValue192
  t218 := Tryz.underlying214
  a218 := Tryz.isAgg214
  z218 := Tryz.sizeOf214
  v218 := Tryz.zeroValue214
  t222 := Tryz.underlying218
  a222 := Tryz.isAgg218
  z222 := Tryz.sizeOf218
  v222 := Tryz.zeroValue218
  t228 := Tryz.underlying223
  a228 := Tryz.isAgg223
  z228 := Tryz.sizeOf223
  v228 := Tryz.zeroValue223
  t229 := Tryz.underlying224
  a229 := Tryz.isAgg224
  z229 := Tryz.sizeOf224
  v229 := Tryz.zeroValue224 }
open Go.Sort Go.RowKit in
theorem Tryz.slices_Sort_string (blk off cap : Nat) (ss : List (List UInt8)) (w : World) (hH : Holds encStr w blk off ss.toArray) (hblk : blk < w.heap.size) (hsz : ss.length < 4611686018427387904) :
    Calls Tryz.prog 88 #[.slice (some ⟨blk, off, none⟩) ss.length cap] w fun e w' =>
      e = .returned (.tuple #[]) ∧ ∃ n os, w' = grow (putRow encStr (Sort.ahead w n) blk off (ss.mergeSort fun x y => decide (x ≤ y)).toArray) os := Any.slices_Sort_string Tryz.lays190 blk off cap ss w hH hblk hsz
def Tryz.lays99_ren : Go.Shelf.Ren := ⟨fun | 99 => 53 | 206 => 86 | n => n, fun | 9 => 9 | 4 => 4 | 3 => 3 | n => n, fun | n => n⟩
theorem Tryz.lays99 : Go.Proofs.Lays.n99 Tryz.prog Tryz.lays99_ren := {
  mixed := by kernel_rfl
  f99 := Tryz.func53.trans (congrArg some (by kernel_rfl))
  f206 := Tryz.func86.trans (congrArg some (by kernel_rfl))
  t3 := Tryz.underlying3
  a3 := Tryz.isAgg3
  z3 := Tryz.sizeOf3
  v3 := Tryz.zeroValue3
  t4 := Tryz.underlying4
  a4 := Tryz.isAgg4
  z4 := Tryz.sizeOf4
  v4 := Tryz.zeroValue4
  t9 := Tryz.underlying9
  a9 := Tryz.isAgg9
  z9 := Tryz.sizeOf9
  v9 := Tryz.zeroValue9 }
open Go.RowKit Go.Lib in
theorem Tryz.strings_HasPrefix (s p : ByteArray) (w : World) :
    Calls Tryz.prog 53 #[.string s, .string p] w fun e w' => e = .returned (.bool (Lib.hasPrefix s.data.toList p.data.toList)) ∧ w' = w := Any.strings_HasPrefix Tryz.lays99 s p w
def Tryz.lays102_ren : Go.Shelf.Ren := ⟨fun | 102 => 97 | 209 => 131 | 207 => 156 | n => n, fun | 9 => 9 | 4 => 4 | 3 => 3 | n => n, fun | n => n⟩
theorem Tryz.lays102 : Go.Proofs.Lays.n102 Tryz.prog Tryz.lays102_ren := {
  mixed := by kernel_rfl
  f102 := Tryz.func97.trans (congrArg some (by kernel_rfl))
  f207 := Tryz.func156.trans (congrArg some (by kernel_rfl))
  f209 := Tryz.func131.trans (congrArg some (by kernel_rfl))
  t3 := Tryz.underlying3
  a3 := Tryz.isAgg3
  z3 := Tryz.sizeOf3
  v3 := Tryz.zeroValue3
  t4 := Tryz.underlying4
  a4 := Tryz.isAgg4
  z4 := Tryz.sizeOf4
  v4 := Tryz.zeroValue4
  t9 := Tryz.underlying9
  a9 := Tryz.isAgg9
  z9 := Tryz.sizeOf9
  v9 := Tryz.zeroValue9 }
open Go.RowKit Go.Lib in
theorem Tryz.strings_TrimSuffix (s p : ByteArray) (w : World) (hs : s.size ≤ 9223372036854775807) :
    Calls Tryz.prog 97 #[.string s, .string p] w fun e w' => e = .returned (.string ⟨(Lib.trimSuffix s.data.toList p.data.toList).toArray⟩) ∧ w' = w := Any.strings_TrimSuffix Tryz.lays102 s p w hs
def Tryz.lays221_ren : Go.Shelf.Ren := ⟨fun | 221 => 81 | 268 => 114 | 138 => 115 | 143 => 116 | 195 => 140 | 197 => 94 | 218 => 141 | 219 => 136 | 260 => 127 | 217 => 158 | 225 => 159 | 224 => 160 | 267 => 161 | 266 => 170 | 314 => 171 | n => n, fun | 9 => 9 | 3 => 3 | 31 => 38 | 4 => 4 | 0 => 0 | 105 => 148 | 21 => 21 | 5 => 5 | 46 => 171 | 119 => 203 | 139 => 206 | 138 => 205 | 146 => 221 | 51 => 199 | n => n, fun | 1 => 5 | 3 => 3 | 4 => 4 | n => n⟩
theorem Tryz.lays221 : Go.Proofs.Lays.n221 Tryz.prog Tryz.lays221_ren := {
  mixed := by kernel_rfl
  f138 := Tryz.func115.trans (congrArg some (by kernel_rfl))
  f143 := Tryz.func116.trans (congrArg some (by kernel_rfl))
  f195 := Tryz.func140.trans (congrArg some (by kernel_rfl))
  f197 := Tryz.func94.trans (congrArg some (by kernel_rfl))
  f217 := Tryz.func158.trans (congrArg some (by kernel_rfl))
  f218 := Tryz.func141.trans (congrArg some (by kernel_rfl))
  f219 := Tryz.func136.trans (congrArg some (by kernel_rfl))
  f221 := Tryz.func81.trans (congrArg some (by kernel_rfl))
  f224 := Tryz.func160.trans (congrArg some (by kernel_rfl))
  f225 := Tryz.func159.trans (congrArg some (by kernel_rfl))
  f260 := Tryz.func127.trans (congrArg some (by kernel_rfl))
  f266 := Tryz.func170.trans (congrArg some (by kernel_rfl))
  f267 := Tryz.func161.trans (congrArg some (by kernel_rfl))
  f268 := Tryz.func114.trans (congrArg some (by kernel_rfl))
  f314 := Tryz.func171.trans (congrArg some (by kernel_rfl))
  t0 := Tryz.underlying0
  a0 := Tryz.isAgg0
  z0 := Tryz.sizeOf0
  v0 := Tryz.zeroValue0
  t3 := Tryz.underlying3
  a3 := Tryz.isAgg3
  z3 := Tryz.sizeOf3
  v3 := Tryz.zeroValue3
  t4 := Tryz.underlying4
  a4 := Tryz.isAgg4
  z4 := Tryz.sizeOf4
  v4 := Tryz.zeroValue4
  t5 := Tryz.underlying5
  a5 := Tryz.isAgg5
  z5 := Tryz.sizeOf5
  v5 := Tryz.zeroValue5
  t9 := Tryz.underlying9
  a9 := Tryz.isAgg9
  z9 := Tryz.sizeOf9
  v9 := Tryz.zeroValue9
  t21 := Tryz.underlying21
  a21 := Tryz.isAgg21
  z21 := Tryz.sizeOf21
  v21 := Tryz.zeroValue21
  t31 := Tryz.underlying38
  a31 := Tryz.isAgg38
  z31 := Tryz.sizeOf38
  v31 := Tryz.zeroValue38
  t46 := Tryz.underlying171
  a46 := Tryz.isAgg171
  z46 := Tryz.sizeOf171
  v46 := Tryz.zeroValue171
  t51 := Tryz.underlying199
  a51 := Tryz.isAgg199
  z51 := Tryz.sizeOf199
  v51 := Tryz.zeroValue199
  t105 := Tryz.underlying148
  a105 := Tryz.isAgg148
  z105 := Tryz.sizeOf148
  v105 := Tryz.zeroValue148
  t119 := Tryz.underlying203
  a119 := Tryz.isAgg203
  z119 := Tryz.sizeOf203
  t138 := Tryz.underlying205
  a138 := Tryz.isAgg205
  z138 := Tryz.sizeOf205
  v138 := Tryz.zeroValue205
  t139 := Tryz.underlying206
  a139 := Tryz.isAgg206
  z139 := Tryz.sizeOf206
  v139 := Tryz.zeroValue206
  t146 := Tryz.underlying221
  a146 := Tryz.isAgg221
  z146 := Tryz.sizeOf221
  v146 := Tryz.zeroValue221
  g1 := by kernel_rfl
  g3 := by kernel_rfl
  g4 := by kernel_rfl }
def Tryz.lays164_ren : Go.Shelf.Ren := ⟨fun | 164 => 62 | 197 => 94 | 239 => 95 | 260 => 127 | 274 => 128 | 275 => 129 | n => n, fun | 9 => 9 | 4 => 4 | 3 => 3 | 5 => 5 | 0 => 0 | 21 => 21 | 105 => 148 | 156 => 175 | 49 => 174 | 157 => 176 | 46 => 171 | 159 => 178 | 162 => 181 | 160 => 179 | 119 => 203 | 139 => 206 | 138 => 205 | 208 => 210 | 51 => 199 | 206 => 208 | n => n, fun | 11 => 0 | 12 => 1 | 13 => 2 | 3 => 3 | 4 => 4 | n => n⟩
theorem Tryz.lays164 : Go.Proofs.Lays.n164 Tryz.prog Tryz.lays164_ren := {
  mixed := by kernel_rfl
  f164 := Tryz.func62.trans (congrArg some (by kernel_rfl))
  f197 := Tryz.func94.trans (congrArg some (by kernel_rfl))
  f239 := Tryz.func95.trans (congrArg some (by kernel_rfl))
  f260 := Tryz.func127.trans (congrArg some (by kernel_rfl))
  f274 := Tryz.func128.trans (congrArg some (by kernel_rfl))
  f275 := Tryz.func129.trans (congrArg some (by kernel_rfl))
  t0 := Tryz.underlying0
  a0 := Tryz.isAgg0
  z0 := Tryz.sizeOf0
  v0 := Tryz.zeroValue0
  t3 := Tryz.underlying3
  a3 := Tryz.isAgg3
  z3 := Tryz.sizeOf3
  v3 := Tryz.zeroValue3
  t4 := Tryz.underlying4
  a4 := Tryz.isAgg4
  z4 := Tryz.sizeOf4
  v4 := Tryz.zeroValue4
  t5 := Tryz.underlying5
  a5 := Tryz.isAgg5
  z5 := Tryz.sizeOf5
  v5 := Tryz.zeroValue5
  t9 := Tryz.underlying9
  a9 := Tryz.isAgg9
  z9 := Tryz.sizeOf9
  v9 := Tryz.zeroValue9
  t21 := Tryz.underlying21
  a21 := Tryz.isAgg21
  z21 := Tryz.sizeOf21
  v21 := Tryz.zeroValue21
  t46 := Tryz.underlying171
  a46 := Tryz.isAgg171
  z46 := Tryz.sizeOf171
  v46 := Tryz.zeroValue171
  t49 := Tryz.underlying174
  a49 := Tryz.isAgg174
  z49 := Tryz.sizeOf174
  v49 := Tryz.zeroValue174
  t51 := Tryz.underlying199
  a51 := Tryz.isAgg199
  z51 := Tryz.sizeOf199
  v51 := Tryz.zeroValue199
  t105 := Tryz.underlying148
  a105 := Tryz.isAgg148
  z105 := Tryz.sizeOf148
  v105 := Tryz.zeroValue148
  t119 := Tryz.underlying203
  a119 := Tryz.isAgg203
  z119 := Tryz.sizeOf203
  t138 := Tryz.underlying205
  a138 := Tryz.isAgg205
  z138 := Tryz.sizeOf205
  v138 := Tryz.zeroValue205
  t139 := Tryz.underlying206
  a139 := Tryz.isAgg206
  z139 := Tryz.sizeOf206
  v139 := Tryz.zeroValue206
  t156 := Tryz.underlying175
  a156 := Tryz.isAgg175
  z156 := Tryz.sizeOf175
  t157 := Tryz.underlying176
  a157 := Tryz.isAgg176
  z157 := Tryz.sizeOf176
  v157 := Tryz.zeroValue176
  t159 := Tryz.underlying178
  a159 := Tryz.isAgg178
  z159 := Tryz.sizeOf178
  v159 := Tryz.zeroValue178
  t160 := Tryz.underlying179
  a160 := Tryz.isAgg179
  z160 := Tryz.sizeOf179
  v160 := Tryz.zeroValue179
  t162 := Tryz.underlying181
  a162 := Tryz.isAgg181
  z162 := Tryz.sizeOf181
  v162 := Tryz.zeroValue181
  t206 := Tryz.underlying208
  a206 := Tryz.isAgg208
  z206 := Tryz.sizeOf208
  v206 := Tryz.zeroValue208
  t208 := Tryz.underlying210
  a208 := Tryz.isAgg210
  z208 := Tryz.sizeOf210
  v208 := Tryz.zeroValue210
  g3 := by kernel_rfl
  g4 := by kernel_rfl
  g11 := by kernel_rfl
  g12 := by kernel_rfl
  g13 := by kernel_rfl }
open Go.RowKit Go.Lib in
theorem Tryz.strings_EqualFold (s t : ByteArray) (w : World) (hs : s.size < 4294967281) (has : ∀ (j : Nat) b, s.data.toList[j]? = some b → b.toNat < 128) (hat : ∀ (j : Nat) b, t.data.toList[j]? = some b → b.toNat < 128) :
    Calls Tryz.prog 62 #[.string s, .string t] w fun e w' => e = .returned (.bool (Lib.equalFold s.data.toList t.data.toList)) ∧ w' = w := Any.strings_EqualFold Tryz.lays164 s t w hs has hat
def Tryz.lays226_ren : Go.Shelf.Ren := ⟨fun | 226 => 155 | n => n, fun | 3 => 3 | 4 => 4 | n => n, fun | n => n⟩
theorem Tryz.lays226 : Go.Proofs.Lays.n226 Tryz.prog Tryz.lays226_ren := {
  mixed := by kernel_rfl
  f226 := Tryz.func155.trans (congrArg some (by kernel_rfl))
  t3 := Tryz.underlying3
  a3 := Tryz.isAgg3
  z3 := Tryz.sizeOf3
  v3 := Tryz.zeroValue3
  t4 := Tryz.underlying4
  a4 := Tryz.isAgg4
  z4 := Tryz.sizeOf4
  v4 := Tryz.zeroValue4 }
open Go.RowKit Go.Lib in
theorem Tryz.strings_shouldUseASCIISet (n : Int) (w : World) :
    Calls Tryz.prog 155 #[.int .i64 n] w fun e w' => e = .returned (.bool (decide (8 < n))) ∧ w' = w := Any.strings_shouldUseASCIISet Tryz.lays226 n w
def Tryz.lays153_ren : Go.Shelf.Ren := ⟨fun | 153 => 130 | 152 => 154 | 226 => 155 | 227 => 101 | 228 => 134 | 137 => 168 | 119 => 169 | 224 => 160 | 225 => 159 | 217 => 158 | 266 => 170 | n => n, fun | 9 => 9 | 3 => 3 | 4 => 4 | 5 => 5 | 21 => 21 | 117 => 157 | 116 => 156 | 0 => 0 | 46 => 171 | 124 => 160 | n => n, fun | n => n⟩
theorem Tryz.lays153 : Go.Proofs.Lays.n153 Tryz.prog Tryz.lays153_ren := {
  mixed := by kernel_rfl
  f119 := Tryz.func169.trans (congrArg some (by kernel_rfl))
  f137 := Tryz.func168.trans (congrArg some (by kernel_rfl))
  f152 := Tryz.func154.trans (congrArg some (by kernel_rfl))
  f153 := Tryz.func130.trans (congrArg some (by kernel_rfl))
  f217 := Tryz.func158.trans (congrArg some (by kernel_rfl))
  f224 := Tryz.func160.trans (congrArg some (by kernel_rfl))
  f225 := Tryz.func159.trans (congrArg some (by kernel_rfl))
  f226 := Tryz.func155.trans (congrArg some (by kernel_rfl))
  f227 := Tryz.func101.trans (congrArg some (by kernel_rfl))
  f228 := Tryz.func134.trans (congrArg some (by kernel_rfl))
  f266 := Tryz.func170.trans (congrArg some (by kernel_rfl))
  t0 := Tryz.underlying0
  a0 := Tryz.isAgg0
  z0 := Tryz.sizeOf0
  v0 := Tryz.zeroValue0
  t3 := Tryz.underlying3
  a3 := Tryz.isAgg3
  z3 := Tryz.sizeOf3
  v3 := Tryz.zeroValue3
  t4 := Tryz.underlying4
  a4 := Tryz.isAgg4
  z4 := Tryz.sizeOf4
  v4 := Tryz.zeroValue4
  t5 := Tryz.underlying5
  a5 := Tryz.isAgg5
  z5 := Tryz.sizeOf5
  v5 := Tryz.zeroValue5
  t9 := Tryz.underlying9
  a9 := Tryz.isAgg9
  z9 := Tryz.sizeOf9
  v9 := Tryz.zeroValue9
  t21 := Tryz.underlying21
  a21 := Tryz.isAgg21
  z21 := Tryz.sizeOf21
  v21 := Tryz.zeroValue21
  t46 := Tryz.underlying171
  a46 := Tryz.isAgg171
  z46 := Tryz.sizeOf171
  v46 := Tryz.zeroValue171
  t116 := Tryz.underlying156
  a116 := Tryz.isAgg156
  z116 := Tryz.sizeOf156
  t117 := Tryz.underlying157
  a117 := Tryz.isAgg157
  z117 := Tryz.sizeOf157
  v117 := Tryz.zeroValue157
  t124 := Tryz.underlying160
  a124 := Tryz.isAgg160
  z124 := Tryz.sizeOf160
  v124 := Tryz.zeroValue160 }
open Go.RowKit Go.Lib in
theorem Tryz.strings_IndexAny_long (hv116 : ∀ w, (zeroValue 156).run Tryz.prog w = .ok (.agg (Array.replicate 256 (.bool false))) w) (s chars : ByteArray) (w : World) (h2 : 2 ≤ chars.size) (h8 : 8 < s.size) (hs : s.size < 4294967281) (hcs : chars.size < 4294967281) (hascii : ∀ (j : Nat) b, chars.data.toList[j]? = some b → b.toNat < 128) :
    Calls Tryz.prog 130 #[.string s, .string chars] w fun e w' => e = .returned (.int .i64 (Lib.indexAny s.data.toList chars.data.toList)) ∧ w' = ((w.alloc (.cells (Lib.setCells chars.data.toList) 156)).alloc (.cells (Lib.setCells chars.data.toList) 156)) := Any.strings_IndexAny_long Tryz.lays153 hv116 (by kernel_rfl) s chars w h2 h8 hs hcs hascii
def Tryz.lays193_ren : Go.Shelf.Ren := ⟨fun | 193 => 56 | n => n, fun | 31 => 38 | 9 => 9 | 4 => 4 | 3 => 3 | 0 => 0 | n => n, fun | n => n⟩
theorem Tryz.lays193 : Go.Proofs.Lays.n193 Tryz.prog Tryz.lays193_ren := {
  mixed := by kernel_rfl
  f193 := Tryz.func56.trans (congrArg some (by kernel_rfl))
  t0 := Tryz.underlying0
  a0 := Tryz.isAgg0
  z0 := Tryz.sizeOf0
  v0 := Tryz.zeroValue0
  t3 := Tryz.underlying3
  a3 := Tryz.isAgg3
  z3 := Tryz.sizeOf3
  v3 := Tryz.zeroValue3
  t4 := Tryz.underlying4
  a4 := Tryz.isAgg4
  z4 := Tryz.sizeOf4
  v4 := Tryz.zeroValue4
  t9 := Tryz.underlying9
  a9 := Tryz.isAgg9
  z9 := Tryz.sizeOf9
  v9 := Tryz.zeroValue9
  t31 := Tryz.underlying38
  a31 := Tryz.isAgg38
  z31 := Tryz.sizeOf38
  v31 := Tryz.zeroValue38 }
open Go.RowKit Go.Lib in
theorem Tryz.slices_Equal_string (b1 o1 n c b2 o2 m d : Nat) (xs ys : List ByteArray) (w : World) (hx : n ≤ xs.length) (hy : m ≤ ys.length) (hbig : n ≤ 9223372036854775807) (hbig2 : m ≤ 9223372036854775807) (hc1 : ∀ j, j < xs.length → w.cell? ⟨b1, o1 + j, none⟩ = some (.string (xs.getD j ByteArray.empty))) (hc2 : ∀ j, j < ys.length → w.cell? ⟨b2, o2 + j, none⟩ = some (.string (ys.getD j ByteArray.empty))) :
    Calls Tryz.prog 56 #[.slice (some ⟨b1, o1, none⟩) n c, .slice (some ⟨b2, o2, none⟩) m d] w fun e w' => e = .returned (.bool (decide (xs.take n = ys.take m))) ∧ ∃ q, w' = w.drewN q := Any.slices_Equal_string Tryz.lays193 b1 o1 n c b2 o2 m d xs ys w hx hy hbig hbig2 hc1 hc2
open Go.RowKit Go.Lib in
theorem Tryz.slices_Equal_string_empty (a1 a2 : Option Addr) (c m d : Nat) (w : World) (hbig2 : m ≤ 9223372036854775807) :
    Calls Tryz.prog 56 #[.slice a1 0 c, .slice a2 m d] w fun e w' => e = .returned (.bool (decide (m = 0))) ∧ w' = w := Any.slices_Equal_string_empty Tryz.lays193 a1 a2 c m d w hbig2
def Tryz.laysNm216_ren : Go.Shelf.Ren := ⟨fun | 16 => 93 | n => n, fun | 24 => 38 | 9 => 9 | 4 => 4 | n => n, fun | n => n⟩
theorem Tryz.laysNm216 : Go.Proofs.Lays2.n16 Tryz.prog Tryz.laysNm216_ren := {
  mixed := by kernel_rfl
  f16 := Tryz.func93.trans (congrArg some (by kernel_rfl))
  t4 := Tryz.underlying4
  a4 := Tryz.isAgg4
  z4 := Tryz.sizeOf4
  v4 := Tryz.zeroValue4
  t9 := Tryz.underlying9
  a9 := Tryz.isAgg9
  z9 := Tryz.sizeOf9
  v9 := Tryz.zeroValue9
  t24 := Tryz.underlying38
  a24 := Tryz.isAgg38
  z24 := Tryz.sizeOf38
  v24 := Tryz.zeroValue38
  i9 := by kernel_rfl }
open Go.RowKit Go.Lib in
theorem Tryz.slices_Clone_string (b off n c : Nat) (zs : List ByteArray) (w : World) (hz : n ≤ zs.length) (hbig : n * 16 ≤ 140737488355328) (hc : ∀ j, j < zs.length → w.cell? ⟨b, off + j, none⟩ = some (.string (zs.getD j ByteArray.empty))) :
    Calls Tryz.prog 93 #[.slice (some ⟨b, off, none⟩) n c] w fun e w' => ∃ v', e = .returned v' ∧ w'.ownsRow w.heap.size 9 1 v' n ((zs.take n).map (Value.string)) ∧ v' ≠ .slice none 0 0 ∧ Below w.heap.size w w' := Any.slices_Clone_string Tryz.laysNm216 b off n c zs w hz hbig hc
open Go.RowKit Go.Lib in
theorem Tryz.slices_Clone_string_nil (n c : Nat) (w : World) :
    Calls Tryz.prog 93 #[.slice none n c] w fun e w' => e = .returned (.slice none 0 0) ∧ w' = w := Any.slices_Clone_string_nil Tryz.laysNm216 n c w
open Go.RowKit Go.Lib in
theorem Tryz.slices_Clone_string_zero (a : Addr) (c : Nat) (w : World) :
    Calls Tryz.prog 93 #[.slice (some a) 0 c] w fun e w' => ∃ v', e = .returned v' ∧ w'.ownsRow w.heap.size 9 1 v' 0 [] ∧ v' ≠ .slice none 0 0 ∧ Below w.heap.size w w' := Any.slices_Clone_string_zero Tryz.laysNm216 a c w
def Tryz.lays194_ren : Go.Shelf.Ren := ⟨fun | 194 => 89 | n => n, fun | 31 => 38 | 9 => 9 | 3 => 3 | 4 => 4 | 0 => 0 | n => n, fun | n => n⟩
theorem Tryz.lays194 : Go.Proofs.Lays.n194 Tryz.prog Tryz.lays194_ren := {
  mixed := by kernel_rfl
  f194 := Tryz.func89.trans (congrArg some (by kernel_rfl))
  t0 := Tryz.underlying0
  a0 := Tryz.isAgg0
  z0 := Tryz.sizeOf0
  v0 := Tryz.zeroValue0
  t3 := Tryz.underlying3
  a3 := Tryz.isAgg3
  z3 := Tryz.sizeOf3
  v3 := Tryz.zeroValue3
  t4 := Tryz.underlying4
  a4 := Tryz.isAgg4
  z4 := Tryz.sizeOf4
  v4 := Tryz.zeroValue4
  t9 := Tryz.underlying9
  a9 := Tryz.isAgg9
  z9 := Tryz.sizeOf9
  v9 := Tryz.zeroValue9
  t31 := Tryz.underlying38
  a31 := Tryz.isAgg38
  z31 := Tryz.sizeOf38
  v31 := Tryz.zeroValue38 }
open Go.RowKit Go.Lib Go.Sort in
theorem Tryz.slices_Compact_string (blk off cap : Nat) (zs : List (List UInt8)) (w : World) (hH : Holds encStr w blk off zs.toArray) (hsz : zs.length ≤ 9223372036854775807) (hcap : zs.length ≤ cap) :
    Calls Tryz.prog 89 #[.slice (some ⟨blk, off, none⟩) zs.length cap] w fun e w' => e = .returned (.slice (some ⟨blk, off, none⟩) (Lib.compact zs).length cap) ∧ ∃ q, w' = putRow encStr (Sort.ahead w q) blk off (Lib.compact zs ++ List.replicate (zs.length - (Lib.compact zs).length) []).toArray := Any.slices_Compact_string Tryz.lays194 blk off cap zs w hH hsz hcap
open Go.RowKit Go.Lib in
theorem Tryz.slices_Equal_string_lens (a1 a2 : Option Addr) (n c m d : Nat) (w : World) (hnm : n ≠ m) :
    Calls Tryz.prog 56 #[.slice a1 n c, .slice a2 m d] w fun e w' => e = .returned (.bool false) ∧ w' = w := Any.slices_Equal_string_lens Tryz.lays193 a1 a2 n c m d w hnm
end Go.Proofs
end
section
namespace Go.Proofs.YtmimipgmhgalaaaGreatDoor.PAll
open Go.RowKit Go.Proofs.YtmimipgmhgalaaaGreatDoorW.PrintWords Go.Shelf
set_option linter.unusedVariables false
theorem info_string : (Tryz.prog.info? 9).map (fun i => (i.zero, i.size, i.bytes)) = some (some (.string ByteArray.empty), 1, 16) := by kernel_rfl
theorem reps_strings {W : World} {b : Nat} {ok : Nat → Prop} : ∀ (l : List ByteArray), Reps (Kd.string.M W b ok) 1 l (l.map Value.string)
  | [] => Reps.none _ _
  | s :: l => by
    have h := reps_strings (W := W) (b := b) (ok := ok) l
    refine ⟨by simp, fun j p hj => ?_⟩
    cases j with
    | zero => simp at hj; subst hj; show _ = _; simp
    | succ j =>
      have := h.2 j p (by simpa using hj)
      simpa [Nat.add_mul] using this
theorem R_new_strings (w : World) (l : List ByteArray) (hl : l.length ≤ 9223372036854775807) : Kd.R Kd.string 9 (w.alloc (.cells (l.map Value.string).toArray 9)) w.heap.size (fun _ => True) (.slice (some ⟨w.heap.size, 0, none⟩) l.length l.length) l := by
  refine ⟨fun _ _ => trivial, l.map Value.string, ⟨?_, .inr ⟨w.heap.size, l.length, (l.map Value.string).toArray, rfl, Nat.le_refl _, ?_, Nat.le_refl _, by unfold maxLen; omega, ?_, ?_⟩⟩, reps_strings l⟩
  · simp [Kd.string, Kd.scalar]
  · show (w.heap.push _)[w.heap.size]? = _
    simp
  · simp [Kd.string, Kd.scalar]
  · simp only [Kd.string, Kd.scalar, Nat.mul_one]
    exact List.take_of_length_le (by simp)
def strings_Split.f (a0 a1 : ByteArray) : Option (List ByteArray) := if a1.size = 1 ∧ a0.size < 4294967281 then some (Lib.splitB a1 0 (Lib.countB a0 a1) a0) else none
theorem split_index (x : ByteArray) (c : UInt8) (w : World) : Calls Tryz.prog 116 #[.string x, .string ⟨#[c]⟩] w fun e w' => e = .returned (.int .i64 (Lib.indexB x ⟨#[c]⟩)) ∧ w' = w :=
  (Tryz.strings_Index_one x c w).mono fun e w' ⟨he, hw⟩ => ⟨by rw [he]; show _ = Ending.returned (Value.int .i64 (Lib.index x.data.toList [c])); rw [Lib.index_one], hw⟩
set_option maxRecDepth 100000 in
theorem split_gen (s : ByteArray) (c : UInt8) (w : World) (hs : s.size < 4294967281) :
    Calls Tryz.prog 81 #[.string s, .string ⟨#[c]⟩, .int .i64 0, .int .i64 (-1)] w fun e w' =>
      e = .returned (.slice (some ⟨w.heap.size, 0, none⟩) (Lib.countB s ⟨#[c]⟩ + 1) (Lib.countB s ⟨#[c]⟩ + 1)) ∧ w' = w.alloc (.cells ((Lib.splitB ⟨#[c]⟩ 0 (Lib.countB s ⟨#[c]⟩) s).map Value.string).toArray 9) := by
  have hle := Lib.countB_le (⟨#[c]⟩ : ByteArray) (Nat.le_refl 1) s.size s (Nat.le_refl _)
  have hlen := Lib.splitB_all (⟨#[c]⟩ : ByteArray) (Nat.le_refl 1) 0 _ s rfl
  have hC : Calls Tryz.prog 115 #[.string s, .string ⟨#[c]⟩] w fun e w' => e = .returned (.int .i64 (Lib.countB s ⟨#[c]⟩)) ∧ w' = w := by
    refine (Tryz.strings_Count_one s c w).mono fun e w' ⟨he, hw⟩ => ⟨?_, hw⟩
    rw [he]
    show _ = Ending.returned (Value.int .i64 ((Lib.count s.data.toList [c] : Nat) : Int))
    rw [Lib.count_one]
    rfl
  have h := Any.strings_genSplit_core Tryz.lays221 info_string s ⟨#[c]⟩ 0 (-1) (Lib.countB s ⟨#[c]⟩ + 1) w hs (Nat.le_refl 1) (Nat.zero_le _) (fun x _ _ => split_index x c _) hC (by decide) (by decide) (by rw [if_pos (by decide)]; omega)
  rw [Nat.add_sub_cancel, hlen] at h
  have e2 : Lib.cellsOf (Lib.splitB ⟨#[c]⟩ 0 (Lib.countB s ⟨#[c]⟩) s) (Lib.countB s ⟨#[c]⟩ + 1) = ((Lib.splitB ⟨#[c]⟩ 0 (Lib.countB s ⟨#[c]⟩) s).map Value.string).toArray := by rw [← hlen]; exact Lib.cellsOf_full _
  rw [e2] at h
  exact h
set_option maxHeartbeats 1000000 in
set_option maxRecDepth 100000 in
theorem strings_Split.calls (a0 a1 : ByteArray) (r : List ByteArray) (w : World) (h : strings_Split.f a0 a1 = some r) :
    Calls Tryz.prog 50 #[.string a0, .string a1] w fun e w' => ∃ v0_ : Value, e = .returned v0_ ∧ Kd.R Kd.string 9 w' w.heap.size (fun _ => True) v0_ r ∧ Below w.heap.size w w' := by
  unfold strings_Split.f at h
  split at h
  · rename_i hh
    injection h with h
    obtain ⟨h1, hs⟩ := hh
    obtain ⟨c, rfl⟩ := Lib.one_byte a1 h1
    have hle := Lib.countB_le (⟨#[c]⟩ : ByteArray) (Nat.le_refl 1) a0.size a0 (Nat.le_refl _)
    have hlen := Lib.splitB_all (⟨#[c]⟩ : ByteArray) (Nat.le_refl 1) 0 _ a0 rfl
    rw [h] at hlen
    have H := Lib.hid h
    clear h
    have HL := Lib.hid hlen
    clear hlen
    have HQ := Lib.hid (split_gen a0 c w hs)
    go_enter Tryz.func50, Tryz.ntmps50
    go_wp2_with (go_at_call 81; refine (HQ.out).mono ?_; rintro e w' ⟨rfl, rfl⟩)
    go_ret
    refine ⟨_, rfl, ?_, (Below.refl _ _).alloc (Nat.le_refl _) _⟩
    rw [H.out]
    have := R_new_strings w r (by rw [HL.out]; omega)
    rw [HL.out] at this
    exact this
  · cases h
def strings_Cut.f (a0 a1 : ByteArray) : Option (ByteArray × ByteArray × Bool) :=
  if a1.size = 1 ∧ a0.size < 4294967281 then some (⟨(Lib.cut a0.data.toList a1.data.toList).1.toArray⟩, ⟨(Lib.cut a0.data.toList a1.data.toList).2.1.toArray⟩, (Lib.cut a0.data.toList a1.data.toList).2.2) else none
set_option maxHeartbeats 1000000 in
set_option maxRecDepth 100000 in
theorem cut_lite (s : ByteArray) (c : UInt8) (w : World) (hs : s.size < 4294967281) :
    Calls Tryz.prog 104 #[.string s, .string ⟨#[c]⟩] w fun e w' => e = .returned (.tuple #[.string ⟨(Lib.cut s.data.toList [c]).1.toArray⟩, .string ⟨(Lib.cut s.data.toList [c]).2.1.toArray⟩, .bool (Lib.cut s.data.toList [c]).2.2]) ∧ Below w.heap.size w w' := by
  rcases Lib.indexB_cases s ⟨#[c]⟩ with hix | ⟨i, hix, hroom⟩
  · obtain ⟨e1, e2, e3⟩ := Lib.cutB_miss s ⟨#[c]⟩ hix
    rw [show [c] = (⟨#[c]⟩ : ByteArray).data.toList from rfl, e1, e2, e3]
    have hi1 : Lib.indexByte s.data.toList c = -1 := by rw [← Lib.index_one]; exact hix
    go_enter Tryz.func104, Tryz.ntmps104
    go_wp2_with (go_at_call 136; refine (Tryz.stringslite_Index_one _ _ _).mono ?_; rintro e w' ⟨rfl, rfl⟩; rw [hi1])
    go_ret3
    exact ⟨rfl, Below.refl _ _⟩
  · obtain ⟨e1, e2, e3⟩ := Lib.cutB_hit s ⟨#[c]⟩ i hix
    rw [show [c] = (⟨#[c]⟩ : ByteArray).data.toList from rfl, e1, e2, e3]
    have hi1 : Lib.indexByte s.data.toList c = (i : Int) := by rw [← Lib.index_one]; exact hix
    have hsz1 : (⟨#[c]⟩ : ByteArray).size = 1 := rfl
    have c1 : (0 : Int) ≤ ↑i := by omega
    have c2 : (↑i : Int) ≤ ↑s.size := by omega
    have c3 : (0 : Int) ≤ ↑i + 1 := by omega
    have c4 : (↑i + 1 : Int) ≤ ↑s.size := by omega
    go_enter Tryz.func104, Tryz.ntmps104
    go_wp2_with (go_at_call 136; refine (Tryz.stringslite_Index_one _ _ _).mono ?_; rintro e w' ⟨rfl, rfl⟩; rw [hi1])
    go_region
    go_wp2
    go_ret3
    exact ⟨rfl, (Below.refl _ _).drew⟩
set_option maxHeartbeats 1000000 in
set_option maxRecDepth 100000 in
theorem strings_Cut.calls (a0 a1 : ByteArray) (r1 : ByteArray) (r2 : ByteArray) (r3 : Bool) (w : World) (h : strings_Cut.f a0 a1 = some (r1, r2, r3)) :
    Calls Tryz.prog 65 #[.string a0, .string a1] w fun e w' => e = .returned (.tuple #[.string r1, .string r2, .bool r3]) ∧ Below w.heap.size w w' := by
  unfold strings_Cut.f at h
  split at h
  · rename_i hh
    obtain ⟨h1, hs⟩ := hh
    obtain ⟨c, rfl⟩ := Lib.one_byte a1 h1
    have HQ := Lib.hid (cut_lite a0 c w hs)
    simp only [Option.some.injEq, Prod.mk.injEq] at h
    obtain ⟨rfl, rfl, rfl⟩ := h
    go_enter Tryz.func65, Tryz.ntmps65
    go_wp2_with (go_at_call 104; refine (HQ.out).mono ?_; rintro e w' ⟨rfl, hb⟩)
    go_ret3
    exact ⟨rfl, hb⟩
  · cases h
end Go.Proofs.YtmimipgmhgalaaaGreatDoor.PAll
end
section
namespace Go.Proofs.YtmimipgmhgalaaaGreatDoor.Bld
open Go.RowKit Go.Proofs.YtmimipgmhgalaaaGreatDoorW.PrintWords
theorem infoByte : (Tryz.prog.info? 5).map (fun i => (i.zero, i.size, i.bytes)) = some (some (.int .u8 0), 1, 1) := by kernel_rfl
theorem sizeB : (Tryz.prog.info? 88).map (·.size) = some 2 := by kernel_rfl
set_option maxHeartbeats 1000000 in
set_option maxRecDepth 100000 in
theorem check_used (b : Nat) (w : World) (h0 : w.cell? ⟨b, 0, none⟩ = some (.pointer (some ⟨b, 0, none⟩))) :
    Calls Tryz.prog 76 #[.pointer (some ⟨b, 0, none⟩)] w fun e w' => e = .returned (.tuple #[]) ∧ w' = w := by
  obtain ⟨j, hj, _⟩ := Option.map_eq_some_iff.1 sizeB
  go_enter Tryz.func76, Tryz.ntmps76
  go_wp2
  rw [Lib.run_neq_ptr_same w _ Tryz.underlying86 hj]
  go_wp2
  go_end0
  exact ⟨rfl, rfl⟩
set_option maxHeartbeats 1000000 in
set_option maxRecDepth 100000 in
theorem check_fresh (b : Nat) (w : World) (h0 : w.cell? ⟨b, 0, none⟩ = some (.pointer none)) (hsh : w.shape? b = some (88, 2)) (hfz : w.frozen? ⟨b, 0, none⟩ = false) :
    Calls Tryz.prog 76 #[.pointer (some ⟨b, 0, none⟩)] w fun e w' => e = .returned (.tuple #[]) ∧ w' = w.setCell ⟨b, 0, none⟩ (.pointer (some ⟨b, 0, none⟩)) := by
  obtain ⟨j, hj, hjs⟩ := Option.map_eq_some_iff.1 sizeB
  go_enter Tryz.func76, Tryz.ntmps76
  go_wp2
  rw [Lib.run_to_unsafe w ⟨b, 0, none⟩ Tryz.underlying86 Tryz.underlying164 hj (by rw [hjs]; decide) hsh (Nat.zero_lt_succ 1)]
  simp only [Result.andThen]
  rw [Oper.upon_value]
  go_wp2
  rw [run_callFunc_extern Tryz.func111 (by kernel_rfl) (by kernel_rfl) (by kernel_rfl) (e := Extern.AbiNoEscape.same) (by kernel_rfl)]
  rw [Lib.run_noEscape]
  simp only [Result.andThen]
  rw [Oper.upon_value]
  go_wp2
  rw [Lib.run_from_unsafe w ⟨b, 0, none⟩ Tryz.underlying164 Tryz.underlying86 hj hsh (by kernel_rfl)]
  simp only [Result.andThen]
  rw [Oper.upon_value]
  go_wp2
  go_end0
  exact ⟨rfl, rfl⟩
theorem check (B b : Nat) (bs : List Value) (w : World) (h : Lib.IsBuilder 88 5 B b bs w) :
    Calls Tryz.prog 76 #[.pointer (some ⟨b, 0, none⟩)] w fun e w' => e = .returned (.tuple #[]) ∧ (Lib.BuilderAt 88 5 B b (.pointer (some ⟨b, 0, none⟩)) bs w' ∧ Below B w w' ∧ Lib.OthersKept 5 (some b) w w') := by
  rcases h with h | h
  · refine (check_fresh b w h.cell0 h.shape h.frozen0).mono ?_
    rintro e w' ⟨rfl, rfl⟩
    exact ⟨rfl, h.used _, (Below.refl B w).setCell (p := ⟨b, 0, none⟩) h.1 _, (Lib.OthersKept.refl _ _ w).setCell ⟨b, 0, none⟩ rfl _⟩
  · refine (check_used b w h.cell0).mono ?_
    rintro e w' ⟨rfl, rfl⟩
    exact ⟨rfl, h, Below.refl B _, Lib.OthersKept.refl _ _ _⟩
theorem lt_of {b : Nat} {w : World} {x : Obj} (h : w.heap[b]? = some x) : b < w.heap.size := (Array.getElem?_eq_some_iff.1 h).1
set_option maxHeartbeats 2000000 in
set_option maxRecDepth 100000 in
theorem writeByte (B b : Nat) (bs : List Value) (c : Int) (w : World) (h : Lib.IsBuilder 88 5 B b bs w) (hlen : bs.length + 1 ≤ 140737488355328) (hBw : B ≤ w.heap.size) :
    Calls Tryz.prog 105 #[.pointer (some ⟨b, 0, none⟩), .int .u8 c] w fun e w' => e = .returned .nilIface ∧ (Lib.IsBuilder 88 5 B b (bs ++ [.int .u8 c]) w' ∧ Below B w w' ∧ Lib.OthersKept 5 (some b) w w') := by
  obtain ⟨i0, hi, hz0, hz1, hz2⟩ := info_parts infoByte
  go_enter Tryz.func105, Tryz.ntmps105
  go_wp2_with (go_at_call 76; refine (check B b bs _ h).mono ?_)
  rintro e w1 ⟨rfl, h1, hb1, hk1⟩
  obtain ⟨hB, v, hbk, hown, hne⟩ := h1
  have c0 : w1.cell? ⟨b, 0, none⟩ = some (.pointer (some ⟨b, 0, none⟩)) := by rw [Lib.cell_of_heap hbk]; rfl
  have c1 : w1.cell? ⟨b, 1, none⟩ = some v := by rw [Lib.cell_of_heap hbk]; rfl
  go_wp2_with (at_builtin; refine wpList_append_own _ rfl _ _ 79 rfl B 5 i0 (.int .u8 0) 1 1 Tryz.underlying79 hi hz0 hz1 hz2 rfl (by decide) _ _ _ rfl (hown.alloc _) ⟨w1.heap.size, 0, none⟩ 1 1 [.int .u8 c] rfl rfl ?c1 ?c2 ?c3 ?c4 ?c5 ?_)
  case c1 =>
    intro j u hj
    match j, hj with
    | 0, hj => simp at hj; subst hj; simp [Addr.add]
  case c2 => intro u hu; simp at hu; subst hu; rfl
  case c3 => unfold maxLen; omega
  case c4 => omega
  case c5 => have := hb1.size; simp; omega
  intro v' w2 hown' hgrow _
  have hlt := lt_of hbk
  have hb2 : w2.heap[b]? = some (.cells #[.pointer (some ⟨b, 0, none⟩), v] 88 (0, 0)) := by
    rw [hgrow.block b (by simp; omega) (fun e => hne e.symm), Lib.alloc_old w1 _ b hlt]
    exact hbk
  have d0 : w2.cell? ⟨b, 0, none⟩ = some (.pointer (some ⟨b, 0, none⟩)) := by rw [Lib.cell_of_heap hb2]; rfl
  have d1 : w2.cell? ⟨b, 1, none⟩ = some v := by rw [Lib.cell_of_heap hb2]; rfl
  have f1 : w2.frozen? ⟨b, 1, none⟩ = false := Lib.frozen_of_heap hb2 1
  obtain ⟨g, cap, rfl⟩ : ∃ g cap, v' = .slice (some ⟨g, 0, none⟩) (bs.length + 1) cap := by
    rcases hown'.2 with ⟨_, h0⟩ | ⟨g, cap, cur, hv, _⟩
    · omega
    · exact ⟨g, cap, hv⟩
  go_wp2
  go_ret
  refine ⟨rfl, ?_, ?_, ((hk1.alloc _).grown hgrow (fun g hg => let ⟨c, hc⟩ := own_typed (hown.alloc _) g hg; ⟨c, _, hc⟩)).setCell ⟨b, 1, none⟩ rfl _⟩
  · exact .inr (Lib.BuilderAt.put (T := 88) (e := 5) hB hb2 (bs' := bs ++ [.int .u8 c]) (by simpa using hown') (by decide))
  · exact ((hb1.alloc (by have := hb1.size; omega) _).grown hgrow (by have := hb1.size; simp; omega) (fun k hk => (hown.lt k hk).1)).setCell (p := ⟨b, 1, none⟩) hB _
set_option maxHeartbeats 2000000 in
set_option maxRecDepth 100000 in
theorem writeString (B b : Nat) (bs : List Value) (s : ByteArray) (w : World) (h : Lib.IsBuilder 88 5 B b bs w) (hlen : bs.length + s.size ≤ 140737488355328) (hBw : B ≤ w.heap.size) :
    Calls Tryz.prog 45 #[.pointer (some ⟨b, 0, none⟩), .string s] w fun e w' => e = .returned (.tuple #[.int .i64 s.size, .nilIface]) ∧ (Lib.IsBuilder 88 5 B b (bs ++ Lib.strCells s) w' ∧ Below B w w' ∧ Lib.OthersKept 5 (some b) w w') := by
  obtain ⟨i0, hi, hz0, hz1, hz2⟩ := info_parts infoByte
  go_enter Tryz.func45, Tryz.ntmps45
  go_wp2_with (go_at_call 76; refine (check B b bs _ h).mono ?_)
  rintro e w1 ⟨rfl, h1, hb1, hk1⟩
  obtain ⟨hB, v, hbk, hown, hne⟩ := h1
  have c0 : w1.cell? ⟨b, 0, none⟩ = some (.pointer (some ⟨b, 0, none⟩)) := by rw [Lib.cell_of_heap hbk]; rfl
  have c1 : w1.cell? ⟨b, 1, none⟩ = some v := by rw [Lib.cell_of_heap hbk]; rfl
  go_wp2_with (at_builtin; refine Lib.wpList_append_own_string _ rfl _ _ 79 9 rfl B 5 i0 Tryz.underlying79 Tryz.underlying9 hi hz0 hz1 hz2 _ _ _ rfl hown s rfl ?c3 ?c4 ?c5 ?_)
  case c3 => unfold maxLen; omega
  case c4 => omega
  case c5 => have := hb1.size; omega
  intro v' w2 hown' hgrow _
  have hlt := lt_of hbk
  have hb2 : w2.heap[b]? = some (.cells #[.pointer (some ⟨b, 0, none⟩), v] 88 (0, 0)) := by
    rw [hgrow.block b hlt (fun e => hne e.symm)]
    exact hbk
  have d0 : w2.cell? ⟨b, 0, none⟩ = some (.pointer (some ⟨b, 0, none⟩)) := by rw [Lib.cell_of_heap hb2]; rfl
  have d1 : w2.cell? ⟨b, 1, none⟩ = some v := by rw [Lib.cell_of_heap hb2]; rfl
  have f1 : w2.frozen? ⟨b, 1, none⟩ = false := Lib.frozen_of_heap hb2 1
  obtain ⟨ao, n', cap, rfl⟩ : ∃ ao n' cap, v' = .slice ao n' cap := by
    rcases hown'.2 with ⟨hv, _⟩ | ⟨g, cap, cur, hv, _⟩
    · exact ⟨_, _, _, hv⟩
    · exact ⟨_, _, _, hv⟩
  go_wp2
  go_ret2
  refine ⟨rfl, ?_, ?_, (hk1.grown hgrow (fun g hg => let ⟨c, hc⟩ := own_typed hown g hg; ⟨c, _, hc⟩)).setCell ⟨b, 1, none⟩ rfl _⟩
  · exact .inr (Lib.BuilderAt.put (T := 88) (e := 5) hB hb2 (bs' := bs ++ Lib.strCells s) (by simpa [Lib.strCells_length] using hown') (by decide))
  · exact (hb1.grown hgrow (by have := hb1.size; omega) (fun k hk => (hown.lt k hk).1)).setCell (p := ⟨b, 1, none⟩) hB _
end Go.Proofs.YtmimipgmhgalaaaGreatDoor.Bld
end
section
namespace Go.Proofs.YtmimipgmhgalaaaGreatDoor.Spec
def alnumB (c : UInt8) : Bool := (65 ≤ c && c ≤ 90) || (97 ≤ c && c ≤ 122) || (48 ≤ c && c ≤ 57)
def punctB (c : UInt8) : Bool := c == 45 || c == 46 || c == 95 || c == 42
def plainB (c : UInt8) : Bool := punctB c || alnumB c
def hexD (n : Nat) : UInt8 := if n < 10 then UInt8.ofNat (48 + n) else UInt8.ofNat (55 + n)
def escB (c : UInt8) : List UInt8 := if c = 32 then [43] else if plainB c then [c] else [37, hexD (c.toNat / 16), hexD (c.toNat % 16)]
def escL (l : List UInt8) : List UInt8 := l.flatMap escB
theorem u8_int (c : UInt8) (n : Nat) (hn : n < 256) : ((c.toNat : Int) == (n : Int)) = (c == UInt8.ofNat n) := by
  rw [Bool.eq_iff_iff, beq_iff_eq, beq_iff_eq]
  constructor
  · intro h
    have h2 : c.toNat = n := by omega
    rw [← h2, UInt8.ofNat_toNat]
  · intro h
    subst h
    simp [UInt8.toNat_ofNat', Nat.mod_eq_of_lt hn]
theorem escL_snoc (l : List UInt8) (c : UInt8) : escL (l ++ [c]) = escL l ++ escB c := by simp [escL]
theorem escB_len (c : UInt8) : 1 ≤ (escB c).length ∧ (escB c).length ≤ 3 := by
  unfold escB
  split
  · simp
  · split <;> simp
theorem escL_len : ∀ l : List UInt8, (escL l).length ≤ 3 * l.length
  | [] => by simp [escL]
  | c :: l => by
    have h1 := escL_len l
    have h2 := (escB_len c).2
    simp only [escL, List.flatMap_cons, List.length_append, List.length_cons] at h1 ⊢
    omega
theorem escL_take (s : ByteArray) (k : Nat) (h : k < s.size) : escL (s.data.toList.take (k + 1)) = escL (s.data.toList.take k) ++ escB s[k] := by
  rw [List.take_succ_eq_append_getElem (by simpa using h), escL_snoc]
  rfl
end Go.Proofs.YtmimipgmhgalaaaGreatDoor.Spec
namespace Go.Proofs.YtmimipgmhgalaaaGreatDoor.Spec
def hexI (c : UInt8) : Int := if 48 ≤ (c.toNat : Int) ∧ (c.toNat : Int) ≤ 57 then (c.toNat : Int) - 48 else if 97 ≤ (c.toNat : Int) ∧ (c.toNat : Int) ≤ 102 then (c.toNat : Int) - 97 + 10 else if 65 ≤ (c.toNat : Int) ∧ (c.toNat : Int) ≤ 70 then (c.toNat : Int) - 65 + 10 else -1
theorem hexI_range (c : UInt8) : -1 ≤ hexI c ∧ hexI c ≤ 15 := by
  unfold hexI
  split
  · omega
  · split
    · omega
    · split <;> omega
def unescL : List UInt8 → Nat → List UInt8 → List UInt8 × Int × Int
  | [], _, acc => (acc, 0, 0)
  | [c], i, acc => if (c.toNat : Int) < 33 ∨ 126 < (c.toNat : Int) then ([], 31, i) else if c = 43 then (acc ++ [32], 0, 0) else if c = 37 then ([], 30, i) else (acc ++ [c], 0, 0)
  | [c, d], i, acc => if (c.toNat : Int) < 33 ∨ 126 < (c.toNat : Int) then ([], 31, i) else if c = 43 then unescL [d] (i + 1) (acc ++ [32]) else if c = 37 then ([], 30, i) else unescL [d] (i + 1) (acc ++ [c])
  | c :: d :: e :: r, i, acc => if (c.toNat : Int) < 33 ∨ 126 < (c.toNat : Int) then ([], 31, i) else if c = 43 then unescL (d :: e :: r) (i + 1) (acc ++ [32])
    else if c = 37 then (if hexI d < 0 ∨ hexI e < 0 then ([], 30, i) else unescL r (i + 3) (acc ++ [UInt8.ofNat (16 * hexI d + hexI e).toNat])) else unescL (d :: e :: r) (i + 1) (acc ++ [c])
theorem unescL_bad (c : UInt8) (r : List UInt8) (i : Nat) (acc : List UInt8) (h : (c.toNat : Int) < 33 ∨ 126 < (c.toNat : Int)) : unescL (c :: r) i acc = ([], 31, (i : Int)) := by
  match r with
  | [] => simp [unescL, h]
  | [d] => simp [unescL, h]
  | d :: e :: r => simp [unescL, h]
theorem unescL_plus (c : UInt8) (r : List UInt8) (i : Nat) (acc : List UInt8) (hc : c = 43) : unescL (c :: r) i acc = unescL r (i + 1) (acc ++ [32]) := by
  subst hc
  match r with
  | [] => simp [unescL]
  | [d] => simp [unescL]
  | d :: e :: r => simp [unescL]
theorem unescL_keep (c : UInt8) (r : List UInt8) (i : Nat) (acc : List UInt8) (h : ¬ ((c.toNat : Int) < 33 ∨ 126 < (c.toNat : Int))) (h1 : c ≠ 43) (h2 : c ≠ 37) : unescL (c :: r) i acc = unescL r (i + 1) (acc ++ [c]) := by
  match r with
  | [] => simp [unescL, h, h1, h2]
  | [d] => simp [unescL, h, h1, h2]
  | d :: e :: r => simp [unescL, h, h1, h2]
theorem unescL_short (c : UInt8) (r : List UInt8) (i : Nat) (acc : List UInt8) (hc : c = 37) (hr : r.length < 2) : unescL (c :: r) i acc = ([], 30, (i : Int)) := by
  subst hc
  match r, hr with
  | [], _ => simp [unescL]
  | [d], _ => simp [unescL]
theorem unescL_nohex (c d e : UInt8) (r : List UInt8) (i : Nat) (acc : List UInt8) (hc : c = 37) (h : hexI d < 0 ∨ hexI e < 0) : unescL (c :: d :: e :: r) i acc = ([], 30, (i : Int)) := by
  subst hc
  simp [unescL, h]
theorem unescL_hex (c d e : UInt8) (r : List UInt8) (i : Nat) (acc : List UInt8) (hc : c = 37) (h : ¬ (hexI d < 0 ∨ hexI e < 0)) : unescL (c :: d :: e :: r) i acc = unescL r (i + 3) (acc ++ [UInt8.ofNat (16 * hexI d + hexI e).toNat]) := by
  subst hc
  simp [unescL, h]
theorem drop_at (s : ByteArray) (k : Nat) (h : k < s.size) : s.data.toList.drop k = s[k] :: s.data.toList.drop (k + 1) := by
  rw [List.drop_eq_getElem_cons (by simpa using h)]
  rfl
end Go.Proofs.YtmimipgmhgalaaaGreatDoor.Spec
end
section
namespace Go.Proofs.YtmimipgmhgalaaaGreatDoor.PAll
open Go.RowKit Go.Proofs.YtmimipgmhgalaaaGreatDoor.Spec Go.Proofs.YtmimipgmhgalaaaGreatDoorW.PrintWords
set_option linter.unusedVariables false
set_option linter.unusedSimpArgs false
def urlform_Unescape.f (a0 : ByteArray) : Option (ByteArray × Int × Int) :=
  if a0.size ≤ 140737488355328 then some (⟨(unescL a0.data.toList 0 []).1.toArray⟩, (unescL a0.data.toList 0 []).2.1, (unescL a0.data.toList 0 []).2.2) else none
theorem un_hex (c : UInt8) (v : Int) (h : hexI c = v) (w : World) :
    Calls Tryz.prog 106 #[.int .u8 (c.toNat : Int)] w fun e w' => e = .returned (.int .i64 v) ∧ w = w' := by
  unfold hexI at h
  go_enter Tryz.func106, Tryz.ntmps106
  subst h
  by_cases h1 : 65 ≤ (c.toNat : Int) <;> by_cases h2 : (c.toNat : Int) ≤ 70 <;> by_cases h3 : 97 ≤ (c.toNat : Int) <;> by_cases h4 : (c.toNat : Int) ≤ 102 <;> by_cases h5 : 48 ≤ (c.toNat : Int) <;> by_cases h6 : (c.toNat : Int) ≤ 57
  all_goals first | omega | skip
  all_goals go_wp2
  all_goals go_ret
  all_goals exact ⟨by simp [h1, h2, h3, h4, h5, h6], rfl⟩
theorem isBuilder_drew {T e B b : Nat} {bs : List Value} {W : World} (h : Lib.IsBuilder T e B b bs W) : Lib.IsBuilder T e B b bs W.drew := h
set_option maxHeartbeats 4000000 in
set_option maxRecDepth 100000 in
theorem urlform_Unescape.calls (a0 : ByteArray) (r1 : ByteArray) (r2 : Int) (r3 : Int) (w : World) (h : urlform_Unescape.f a0 = some (r1, r2, r3)) :
    Calls Tryz.prog 66 #[.string a0] w fun e w' => e = .returned (.tuple #[.string r1, .int .i64 r2, .int .i64 r3]) ∧ Below w.heap.size w w' := by
  unfold urlform_Unescape.f at h
  split at h
  · rename_i hs
    simp only [Option.some.injEq, Prod.mk.injEq] at h
    obtain ⟨rfl, rfl, rfl⟩ := h
    go_enter Tryz.func66, Tryz.ntmps66
    go_wp2
    go_loopw [6] (fun v6 wr => ∃ (k : Nat) (acc : List UInt8), k ≤ a0.size ∧ v6 = .int .i64 k ∧ Lib.IsBuilder 88 5 w.heap.size w.heap.size (Lib.byteCells acc) wr ∧ Below w.heap.size w wr ∧ acc.length ≤ k ∧ unescL (a0.data.toList.drop k) k acc = unescL a0.data.toList 0 []) (fun v6 _ => a0.size - (intOf v6).toNat)
    case atStart => exact ⟨0, [], Nat.zero_le _, rfl, Lib.fresh_isBuilder _ 5 w, (Below.refl _ w).alloc (Nat.le_refl _) _, Nat.zero_le _, rfl⟩
    case round =>
      obtain ⟨k, acc, hk, rfl, hI, hB, hal, hun⟩ := hrel
      have HUN := Lib.hid hun
      clear hun
      have hsz := hB.size
      have hlen : (Lib.byteCells acc).length ≤ k := by rw [Lib.byteCells_length]; exact hal
      by_cases hlt : k < a0.size
      · have HD := Lib.hid (drop_at a0 k hlt)
        by_cases hbad : (a0[k].toNat : Int) < 33 ∨ 126 < (a0[k].toNat : Int)
        · have HBAD := Lib.hid hbad
          rcases hbad with hb | hb
          all_goals
            go_wp2
            go_ret3
            refine ⟨?_, hB⟩
            rw [← HUN.out, HD.out, unescL_bad _ _ _ _ HBAD.out]
            rfl
        · have HBAD := Lib.hid hbad
          have hb1 : 33 ≤ (a0[k].toNat : Int) := by omega
          have hb2 : (a0[k].toNat : Int) ≤ 126 := by omega
          clear hbad
          by_cases hpl : a0[k] = 43
          · have hpt : ((a0[k].toNat : Int) == 43) = true := by rw [hpl]; rfl
            have HPL := Lib.hid hpl
            clear hpl
            go_wp2_with fail
            refine (Bld.writeByte w.heap.size w.heap.size _ 32 _ hI (by omega) (by omega)).mono ?_
            rintro e w1 ⟨rfl, h1, hb1, _⟩
            go_wp2
            go_roundw
            case rel =>
              refine ⟨k + 1, acc ++ [32], by omega, by go_num, ?_, hB.trans hb1, by simp; omega, ?_⟩
              · rw [Lib.byteCells_append]; exact h1
              · rw [← HUN.out, HD.out, unescL_plus _ _ _ _ HPL.out]
            case measure => simp [intOf]; omega
          · have hpt : ((a0[k].toNat : Int) == 43) = false := by
              have := u8_int a0[k] 43 (by omega)
              simp only [Int.cast_ofNat_Int] at this
              rw [this]
              exact beq_eq_false_iff_ne.2 hpl
            have HPL := Lib.hid hpl
            clear hpl
            by_cases hpc : a0[k] = 37
            · have hpt2 : ((a0[k].toNat : Int) == 37) = true := by rw [hpc]; rfl
              have HPC := Lib.hid hpc
              clear hpc
              by_cases h2 : k + 2 < a0.size
              · obtain ⟨v1, hv1⟩ : ∃ v, hexI a0[k + 1] = v := ⟨_, rfl⟩
                obtain ⟨v2, hv2⟩ : ∃ v, hexI a0[k + 2] = v := ⟨_, rfl⟩
                have hr1 := hexI_range a0[k + 1]
                have hr2 := hexI_range a0[k + 2]
                rw [hv1] at hr1
                rw [hv2] at hr2
                obtain ⟨l1, u1⟩ := hr1
                obtain ⟨l2, u2⟩ := hr2
                have HV1 := Lib.hid hv1
                have HV2 := Lib.hid hv2
                clear hv1 hv2
                have HD2 : Hid (a0.data.toList.drop k = a0[k] :: a0[k + 1] :: a0[k + 2] :: a0.data.toList.drop (k + 3)) := by
                  show _ = _
                  rw [drop_at a0 k (by omega), drop_at a0 (k + 1) (by omega), drop_at a0 (k + 2) (by omega)]
                go_wp2_with fail
                refine (un_hex _ v1 HV1.out _).mono ?_
                rintro e w' ⟨rfl, rfl⟩
                by_cases hn1 : v1 < 0
                · go_wp2
                  go_ret3
                  refine ⟨?_, hB⟩
                  rw [← HUN.out, HD2.out, unescL_nohex _ _ _ _ _ _ HPC.out (.inl (by rw [HV1.out]; exact hn1))]
                  rfl
                · go_wp2_with fail
                  refine (un_hex _ v2 HV2.out _).mono ?_
                  rintro e w' ⟨rfl, rfl⟩
                  by_cases hn2 : v2 < 0
                  · go_wp2
                    go_ret3
                    refine ⟨?_, hB⟩
                    rw [← HUN.out, HD2.out, unescL_nohex _ _ _ _ _ _ HPC.out (.inr (by rw [HV2.out]; exact hn2))]
                    rfl
                  · go_wp2_with fail
                    have q0 : 0 ≤ (k : Int) + 1 := by omega
                    have q1 : (k : Int) + 1 < (a0.size : Int) := by omega
                    have q2 : 0 ≤ (k : Int) + 2 := by omega
                    have q3 : (k : Int) + 2 < (a0.size : Int) := by omega
                    have q4 : IntKind.i64.wrap ((k : Int) + 1) = (k : Int) + 1 := IntWalk.i64_in _ (by omega)
                    have q5 : IntKind.i64.wrap ((k : Int) + 2) = (k : Int) + 2 := IntWalk.i64_in _ (by omega)
                    have q6 : ((k : Int) + 1).toNat = k + 1 := by omega
                    have q7 : ((k : Int) + 2).toNat = k + 2 := by omega
                    have q8 : IntKind.i64.wrap (16 * v1) = 16 * v1 := IntWalk.i64_in _ (by omega)
                    have q9 : IntKind.i64.wrap (16 * v1 + v2) = 16 * v1 + v2 := IntWalk.i64_in _ (by omega)
                    have q10 : IntKind.u8.wrap (16 * v1 + v2) = 16 * v1 + v2 := IntWalk.u8_in _ (by omega)
                    have hv : Hid (((UInt8.ofNat (16 * v1 + v2).toNat).toNat : Int) = 16 * v1 + v2) := by
                      show _ = _
                      rw [UInt8.toNat_ofNat']
                      omega
                    go_region_with (first
                      | (go_at_call 106; (with_reducible refine (un_hex _ v1 HV1.out _).mono ?_); rintro e w' ⟨rfl, rfl⟩)
                      | (go_at_call 106; (with_reducible refine (un_hex _ v2 HV2.out _).mono ?_); rintro e w' ⟨rfl, rfl⟩)
                      | (go_at_call 105; refine (Bld.writeByte w.heap.size w.heap.size _ _ _ (isBuilder_drew hI) ?side1 ?side2).mono ?_; (case side1 => omega); (case side2 => exact hsz); rintro e w' ⟨rfl, h1, hb1, _⟩))
                    all_goals clear q4 q5 q8 q9 q10
                    all_goals
                      go_wp2
                      go_roundw
                      case rel =>
                        refine ⟨k + 3, acc ++ [UInt8.ofNat (16 * v1 + v2).toNat], by omega, by go_num, ?_, hB.drew.trans hb1, by simp; omega, ?_⟩
                        · rw [Lib.byteCells_append]
                          show Lib.IsBuilder _ _ _ _ (Lib.byteCells acc ++ [Value.int .u8 ((UInt8.ofNat (16 * v1 + v2).toNat).toNat : Int)]) _
                          rw [hv.out]
                          exact h1
                        · rw [← HUN.out, HD2.out, unescL_hex _ _ _ _ _ _ HPC.out (by rw [HV1.out, HV2.out]; omega), HV1.out, HV2.out]
                      case measure => simp [intOf]; omega
              · go_wp2
                go_ret3
                refine ⟨?_, hB⟩
                rw [← HUN.out, HD.out, unescL_short _ _ _ _ HPC.out (by simp; omega)]
                rfl
            · have hpt2 : ((a0[k].toNat : Int) == 37) = false := by
                have := u8_int a0[k] 37 (by omega)
                simp only [Int.cast_ofNat_Int] at this
                rw [this]
                exact beq_eq_false_iff_ne.2 hpc
              have HPC := Lib.hid hpc
              clear hpc
              go_wp2_with fail
              refine (Bld.writeByte w.heap.size w.heap.size _ _ _ hI (by omega) (by omega)).mono ?_
              rintro e w1 ⟨rfl, h1, hb1, _⟩
              go_wp2
              go_roundw
              case rel =>
                refine ⟨k + 1, acc ++ [a0[k]], by omega, by go_num, ?_, hB.trans hb1, by simp; omega, ?_⟩
                · rw [Lib.byteCells_append]; exact h1
                · rw [← HUN.out, HD.out, unescL_keep _ _ _ _ HBAD.out HPL.out HPC.out]
              case measure => simp [intOf]; omega
      · go_wp2_with fail
        refine (Tryz.Builder_String_any w.heap.size w.heap.size _ _ hI (by omega)).mono ?_
        rintro e w1 ⟨rfl, hb1⟩
        go_wp2
        go_ret3
        refine ⟨?_, hB.trans hb1⟩
        rw [← HUN.out, List.drop_eq_nil_of_le (by simp; omega)]
        rfl
  · cases h
end Go.Proofs.YtmimipgmhgalaaaGreatDoor.PAll
end
section
namespace Go.Proofs.YtmimipgmhgalaaaGreatDoor.PAll
open Go.RowKit Go.Proofs.YtmimipgmhgalaaaGreatDoorW.PrintWords Go.Proofs.YtmimipgmhgalaaaGreatDoorW.PrintLast Go.Proofs.YtmimipgmhgalaaaGreatDoorW.PrintMore
attribute [local go_sem] max2_int min2_int max_two min_two max_three min_three max_four min_four
set_option linter.unusedVariables false
set_option linter.unusedSimpArgs false
def urlform_Parse.l0 : Nat → List (S68) → Int → List ByteArray → Int → Int → Option ((List (S68)) × Int × Int)
 | 0, _, _, _, _, _ => none
 | k + 1, x5, x6, x21, x22, x23 => if x23 < x22 then (if 0 ≤ x23 then (if x23 < (x21.length : Int) then (if (rdOf ByteArray.empty x21 x23).toList = ([] : List UInt8) then (urlform_Parse.l0 k x5 (wrap64 (x6 + (wrap64 (((rdOf ByteArray.empty x21 x23).size : Int) + 1)))) x21 x22 (wrap64 (x23 + 1))) else (if (x5.length : Int) = 64 then (some (([] : List (S68)), 32, x6)) else ((strings_Cut.f (rdOf ByteArray.empty x21 x23) (⟨#[61]⟩ : ByteArray)).bind fun bt105 => ((urlform_Unescape.f bt105.1).bind fun bt108 => (if bt108.2.1 = 0 then ((urlform_Unescape.f bt105.2.1).bind fun bt111 => (if bt111.2.1 = 0 then (if x5.length < 4398046511104 then (urlform_Parse.l0 k (x5 ++ [(⟨bt108.1, bt111.1⟩ : S68)]) (wrap64 (x6 + (wrap64 (((rdOf ByteArray.empty x21 x23).size : Int) + 1)))) x21 x22 (wrap64 (x23 + 1))) else (none)) else (some (([] : List (S68)), bt111.2.1, wrap64 ((wrap64 ((wrap64 (x6 + (bt105.1.size : Int))) + 1)) + bt111.2.2))))) else (some (([] : List (S68)), bt108.2.1, wrap64 (x6 + bt108.2.2)))))))) else (none)) else (none)) else (some (x5, 0, 0))
def urlform_Parse.f (k : Nat) (a0 : ByteArray) : Option ((List (S68)) × Int × Int) := if (a0.size : Int) > 16384 then (some (([] : List (S68)), 1, 0)) else ((strings_Split.f a0 (⟨#[38]⟩ : ByteArray)).bind fun t101 => (urlform_Parse.l0 k ([] : List (S68)) 0 t101 (t101.length : Int) 0))
set_option maxHeartbeats 8000000 in
set_option maxRecDepth 100000 in
theorem urlform_Parse.calls (k : Nat) (a0 : ByteArray) (r1 : List (S68)) (r2 : Int) (r3 : Int) (w : World) (h : urlform_Parse.f k a0 = some (r1, r2, r3)) :
 Calls Tryz.prog 82 #[.string a0] w fun e w' => ∃ v0_ : Value, e = .returned (.tuple #[v0_, .int .i64 r2, .int .i64 r3]) ∧ Kd.R k68 68 w' w.heap.size (fun _ => True) v0_ r1 ∧ Below w.heap.size w w' := by
 have hu68 := Tryz.underlying68
 have HB := Aside0.mk (Below.refl w.heap.size w)
 have H : (if (a0.size : Int) > 16384 then (some (([] : List (S68)), 1, 0)) else ((strings_Split.f a0 (⟨#[38]⟩ : ByteArray)).bind fun t101 => (urlform_Parse.l0 k ([] : List (S68)) 0 t101 (t101.length : Int) 0))) = some (r1, r2, r3) := h
 clear h
 by_cases c2 : (a0.size : Int) > 16384
 · rw [if_pos c2] at H
   have c2b0 : decide (16384 < (a0.size : Int)) = true := decide_eq_true c2
   have c2b1 : decide (16384 < a0.size) = true := decide_eq_true (by omega)
   clear c2
   simp only [Option.some.injEq, Prod.mk.injEq] at H
   obtain ⟨rfl, rfl, rfl⟩ := H
   go_enter Tryz.func82, Tryz.ntmps82
   go_wp2
   go_step3
   go_wp2
   try go_step3
   go_wp2
   try rw [Exit.noGoto_ret]
   go_ret3
   exact ⟨_, rfl, by (exact Kd.R_nil _ _ _ _ _), by (with_reducible exact HB.out)⟩
 · rw [if_neg c2] at H
   have c2b0 : decide (16384 < (a0.size : Int)) = false := decide_eq_false c2
   have c2b1 : decide (16384 < a0.size) = false := decide_eq_false (by omega)
   clear c2
   replace H := Option.bind_eq_some_iff.mp H
   obtain ⟨t101, A30, H⟩ := H
   replace H : (urlform_Parse.l0 k ([] : List (S68)) 0 t101 (t101.length : Int) 0) = some (r1, r2, r3) := H
   have A3 := Aside0.mk A30
   clear A30
   have H' := Aside0.mk H
   clear H
   go_enter Tryz.func82, Tryz.ntmps82
   go_wp2
   go_step3
   go_wp2
   try go_step3
   go_wp2_with (first | ((with_reducible refine gate_callee (f := 50) rfl ?_); refine goesL_ (some 21) rfl rfl Tryz.func50 (by kernel_rfl) rfl #[.string a0, .string (⟨#[38]⟩ : ByteArray)] rfl (by ((try simp only [List.map_toArray, List.map_cons, List.map_nil]); (rfl))) ?_; (with_reducible refine (strings_Split.calls a0 (⟨#[38]⟩ : ByteArray) t101 _ A3.out).mono ?_); rintro e w4 ⟨v102, rfl, ho0, hb⟩; refine ⟨_, rfl, ?_⟩; have HO103 := Aside0.mk (Kd.R_lower ho0 (below_size HB.out)); replace HB := Aside0.mk (below_step HB.out hb); clear hb ho0; obtain ⟨Ao5, co5, eo5⟩ := Kd.R_slice HO103.out; subst eo5))
   go_loopg [5, 6, 23] k (fun kq v5 v6 v23 w' => ∃ (x5_1 : List (S68)) (x6_1 : Int) (x23_1 : Int), v6 = .int .i64 x6_1 ∧ v23 = .int .i64 x23_1 ∧ Aside0 (urlform_Parse.l0 kq x5_1 x6_1 t101 (t101.length : Int) x23_1 = some (r1, r2, r3)) ∧ Aside0 (kq ≤ k) ∧ Aside0 (Kd.R k68 68 w' w.heap.size (fun _ => True) v5 x5_1) ∧ Aside0 (Kd.R Kd.string 9 w' w.heap.size (fun _ => True) (.slice Ao5 t101.length co5) t101) ∧ Aside0 (Below w.heap.size w w'))
   case atStart => exact ⟨(([] : List (S68))), (0), (0), rfl, rfl, H', ⟨Nat.le_refl _⟩, ⟨by (exact Kd.R_nil _ _ _ _ _)⟩, ⟨HO103.out⟩, ⟨HB.out⟩⟩
   case round =>
    clear H' c2b0 c2b1
    obtain ⟨x5_1, x6_1, x23_1, rfl, rfl, HA, HK1, HO_5, HO_21, HB⟩ := hrel
    cases gk with
    | zero => exact absurd HA.out (by simp [urlform_Parse.l0])
    | succ k1 =>
     have H := HA.out
     clear HA
     simp only [urlform_Parse.l0] at H
     by_cases c6 : x23_1 < (t101.length : Int)
     · rw [if_pos c6] at H
       have c6b0 : decide (x23_1 < (t101.length : Int)) = true := decide_eq_true c6
       clear c6
       by_cases c7 : 0 ≤ x23_1
       · rw [if_pos c7] at H
         have c7b0 : decide (0 ≤ x23_1) = true := decide_eq_true c7
         clear c7
         by_cases c8 : x23_1 < (t101.length : Int)
         · rw [if_pos c8] at H
           have c8b0 : decide (x23_1 < (t101.length : Int)) = true := decide_eq_true c8
           clear c8
           by_cases c9 : (rdOf ByteArray.empty t101 x23_1).toList = ([] : List UInt8)
           · rw [if_pos c9] at H
             have c9b0 : ((rdOf ByteArray.empty t101 x23_1).toList == ([] : List UInt8)) = true := beq_iff_eq.mpr c9
             have c9b1 : ((rdOf ByteArray.empty t101 x23_1).toList != ([] : List UInt8)) = false := bne_eq_false_iff_eq.mpr c9
             clear c9
             have H' := Aside0.mk H
             clear H
             have p104 : 0 ≤ (x23_1 : Int) := of_decide_eq_true (by assumption)
             have q104 : x23_1 < (t101.length : Int) := of_decide_eq_true (by assumption)
             obtain ⟨ad104, e104, hx104_0⟩ := Kd.at_string (Kd.R_reads' HO_21.out).2.2 x23_1 p104 q104
             cases e104
             replace p104 := eq_true p104
             replace q104 := eq_true q104
             go_wp2
             go_roundg k1
             case measure => have := HK1.out; omega
             case rel => exact ⟨(x5_1), (wrap64 (x6_1 + (wrap64 (((rdOf ByteArray.empty t101 x23_1).size : Int) + 1)))), (wrap64 (x23_1 + 1)), rfl, rfl, H', ⟨by have := HK1.out; omega⟩, ⟨HO_5.out⟩, ⟨HO_21.out⟩, ⟨HB.out⟩⟩
           · rw [if_neg c9] at H
             have c9b0 : ((rdOf ByteArray.empty t101 x23_1).toList == ([] : List UInt8)) = false := beq_eq_false_iff_ne.mpr c9
             have c9b1 : ((rdOf ByteArray.empty t101 x23_1).toList != ([] : List UInt8)) = true := bne_iff_ne.mpr c9
             by_cases c10 : (x5_1.length : Int) = 64
             · rw [if_pos c10] at H
               have c10b0 : ((x5_1.length : Int) == 64) = true := beq_iff_eq.mpr c10
               have c10b1 : ((x5_1.length : Int) != 64) = false := bne_eq_false_iff_eq.mpr c10
               clear c10
               simp only [Option.some.injEq, Prod.mk.injEq] at H
               obtain ⟨rfl, rfl, rfl⟩ := H
               have p104 : 0 ≤ (x23_1 : Int) := of_decide_eq_true (by assumption)
               have q104 : x23_1 < (t101.length : Int) := of_decide_eq_true (by assumption)
               obtain ⟨ad104, e104, hx104_0⟩ := Kd.at_string (Kd.R_reads' HO_21.out).2.2 x23_1 p104 q104
               cases e104
               replace p104 := eq_true p104
               replace q104 := eq_true q104
               obtain ⟨Ao11, co11, eo11⟩ := Kd.R_slice HO_5.out
               subst eo11
               go_wp2
               try rw [Exit.noGoto_ret]
               go_ret3
               exact ⟨_, rfl, by (exact Kd.R_nil _ _ _ _ _), by (with_reducible exact HB.out)⟩
             · rw [if_neg c10] at H
               have c10b0 : ((x5_1.length : Int) == 64) = false := beq_eq_false_iff_ne.mpr c10
               have c10b1 : ((x5_1.length : Int) != 64) = true := bne_iff_ne.mpr c10
               replace H := Option.bind_eq_some_iff.mp H
               obtain ⟨⟨t105, t106, t107⟩, A120, H⟩ := H
               replace H : ((urlform_Unescape.f t105).bind fun bt108 => (if bt108.2.1 = 0 then ((urlform_Unescape.f t106).bind fun bt111 => (if bt111.2.1 = 0 then (if x5_1.length < 4398046511104 then (urlform_Parse.l0 k1 (x5_1 ++ [(⟨bt108.1, bt111.1⟩ : S68)]) (wrap64 (x6_1 + (wrap64 (((rdOf ByteArray.empty t101 x23_1).size : Int) + 1)))) t101 (t101.length : Int) (wrap64 (x23_1 + 1))) else (none)) else (some (([] : List (S68)), bt111.2.1, wrap64 ((wrap64 ((wrap64 (x6_1 + (t105.size : Int))) + 1)) + bt111.2.2))))) else (some (([] : List (S68)), bt108.2.1, wrap64 (x6_1 + bt108.2.2))))) = some (r1, r2, r3) := H
               have A12 := Aside0.mk A120
               clear A120
               replace H := Option.bind_eq_some_iff.mp H
               obtain ⟨⟨t108, t109, t110⟩, A130, H⟩ := H
               replace H : (if t109 = 0 then ((urlform_Unescape.f t106).bind fun bt111 => (if bt111.2.1 = 0 then (if x5_1.length < 4398046511104 then (urlform_Parse.l0 k1 (x5_1 ++ [(⟨t108, bt111.1⟩ : S68)]) (wrap64 (x6_1 + (wrap64 (((rdOf ByteArray.empty t101 x23_1).size : Int) + 1)))) t101 (t101.length : Int) (wrap64 (x23_1 + 1))) else (none)) else (some (([] : List (S68)), bt111.2.1, wrap64 ((wrap64 ((wrap64 (x6_1 + (t105.size : Int))) + 1)) + bt111.2.2))))) else (some (([] : List (S68)), t109, wrap64 (x6_1 + t110)))) = some (r1, r2, r3) := H
               have A13 := Aside0.mk A130
               clear A130
               by_cases c14 : t109 = 0
               · rw [if_pos c14] at H
                 have c14b0 : (t109 == 0) = true := beq_iff_eq.mpr c14
                 have c14b1 : (t109 != 0) = false := bne_eq_false_iff_eq.mpr c14
                 clear c14
                 replace H := Option.bind_eq_some_iff.mp H
                 obtain ⟨⟨t111, t112, t113⟩, A150, H⟩ := H
                 replace H : (if t112 = 0 then (if x5_1.length < 4398046511104 then (urlform_Parse.l0 k1 (x5_1 ++ [(⟨t108, t111⟩ : S68)]) (wrap64 (x6_1 + (wrap64 (((rdOf ByteArray.empty t101 x23_1).size : Int) + 1)))) t101 (t101.length : Int) (wrap64 (x23_1 + 1))) else (none)) else (some (([] : List (S68)), t112, wrap64 ((wrap64 ((wrap64 (x6_1 + (t105.size : Int))) + 1)) + t113)))) = some (r1, r2, r3) := H
                 have A15 := Aside0.mk A150
                 clear A150
                 by_cases c16 : t112 = 0
                 · rw [if_pos c16] at H
                   have c16b0 : (t112 == 0) = true := beq_iff_eq.mpr c16
                   have c16b1 : (t112 != 0) = false := bne_eq_false_iff_eq.mpr c16
                   clear c16
                   by_cases c17 : x5_1.length < 4398046511104
                   · rw [if_pos c17] at H
                     have LMc17 := Aside0.mk c17
                     clear c17
                     obtain ⟨y114, hy114⟩ : ∃ y_ : List (S68), y_ = (x5_1 ++ [(⟨t108, t111⟩ : S68)]) := ⟨_, rfl⟩
                     replace H : (urlform_Parse.l0 k1 y114 (wrap64 (x6_1 + (wrap64 (((rdOf ByteArray.empty t101 x23_1).size : Int) + 1)))) t101 (t101.length : Int) (wrap64 (x23_1 + 1))) = some (r1, r2, r3) := by (rw [hy114]; with_reducible exact H)
                     have Ny114 := Aside0.mk hy114
                     clear hy114
                     have H' := Aside0.mk H
                     clear H
                     have p104 : 0 ≤ (x23_1 : Int) := of_decide_eq_true (by assumption)
                     have q104 : x23_1 < (t101.length : Int) := of_decide_eq_true (by assumption)
                     obtain ⟨ad104, e104, hx104_0⟩ := Kd.at_string (Kd.R_reads' HO_21.out).2.2 x23_1 p104 q104
                     cases e104
                     replace p104 := eq_true p104
                     replace q104 := eq_true q104
                     obtain ⟨Ao18, co18, eo18⟩ := Kd.R_slice HO_5.out
                     subst eo18
                     go_wp2_with (first | ((with_reducible refine gate_callee (f := 65) rfl ?_); refine goesL_ (some 41) rfl rfl Tryz.func65 (by kernel_rfl) rfl #[.string (rdOf ByteArray.empty t101 x23_1), .string (⟨#[61]⟩ : ByteArray)] rfl (by ((try simp only [List.map_toArray, List.map_cons, List.map_nil]); (rfl))) ?_; (with_reducible refine (strings_Cut.calls (rdOf ByteArray.empty t101 x23_1) (⟨#[61]⟩ : ByteArray) t105 t106 t107 _ A12.out).mono ?_); rintro e w19 ⟨rfl, hb⟩; refine ⟨_, rfl, ?_⟩; replace HO_5 := Aside0.mk (Kd.R_below HO_5.out hb); replace HO_21 := Aside0.mk (Kd.R_below HO_21.out hb); replace HB := Aside0.mk (below_step HB.out hb); clear hb) | ((with_reducible refine gate_callee (f := 66) rfl ?_); refine goesL_ (some 47) rfl rfl Tryz.func66 (by kernel_rfl) rfl #[.string t105] rfl (by ((try simp only [List.map_toArray, List.map_cons, List.map_nil]); (rfl))) ?_; (with_reducible refine (urlform_Unescape.calls t105 t108 t109 t110 _ A13.out).mono ?_); rintro e w20 ⟨rfl, hb⟩; refine ⟨_, rfl, ?_⟩; replace HO_5 := Aside0.mk (Kd.R_below HO_5.out hb); replace HO_21 := Aside0.mk (Kd.R_below HO_21.out hb); replace HB := Aside0.mk (below_step HB.out hb); clear hb) | ((with_reducible refine gate_callee (f := 66) rfl ?_); refine goesL_ (some 59) rfl rfl Tryz.func66 (by kernel_rfl) rfl #[.string t106] rfl (by ((try simp only [List.map_toArray, List.map_cons, List.map_nil]); (rfl))) ?_; (with_reducible refine (urlform_Unescape.calls t106 t111 t112 t113 _ A15.out).mono ?_); rintro e w21 ⟨rfl, hb⟩; refine ⟨_, rfl, ?_⟩; replace HO_5 := Aside0.mk (Kd.R_below HO_5.out hb); replace HO_21 := Aside0.mk (Kd.R_below HO_21.out hb); replace HB := Aside0.mk (below_step HB.out hb); clear hb) | ((with_reducible refine gate_builtin (b := .append) (xs := #[.tmp 73, .tmp 77]) rfl ?_); at_builtin; refine Kd.R_append k68 (w0 := w) w.heap.size rfl (.tmp 73) (.tmp 77) 60 68 (.agg #[(.string ⟨#[]⟩), (.string ⟨#[]⟩)]) 32 rfl Tryz.underlying60 info68 rfl (by decide) (by omega) (.slice Ao18 x5_1.length co18) x5_1 (⟨t108, t111⟩ : S68) [.string t108, .string t111] (fun _ => True) (fun _ => False) rfl rfl ?aP (fun _ hk => hk.elim) ?aF ?aO ?aB ?aS ?aL ?_; (case aP => exact k68_mkM _ _ _ (⟨t108, t111⟩ : S68)); (case aB => exact HB.out); (case aF => exact (fun _ _ => trivial)); (case aO => exact HO_5.out); (case aS => exact (below_size HB.out)); (case aL => have := LMc17.out; omega); intro v115 w22 ho hb hg hat; rw [← Ny114.out] at ho; have n0_ := Aside0.mk (Kd.R_over' HO_21.out (Kd.R_typed HO_5.out) (by decide) hg); have n1_ := Aside0.mk hb; have n2_ := Aside0.mk ho; clear HO_21 HB HO_5; have HO_21 := n0_; have HB := n1_; have HO116 := n2_; clear n0_ n1_ n2_; clear ho hb hg hat))
                     go_roundg k1
                     case measure => have := HK1.out; omega
                     case rel => exact ⟨(y114), (wrap64 (x6_1 + (wrap64 (((rdOf ByteArray.empty t101 x23_1).size : Int) + 1)))), (wrap64 (x23_1 + 1)), rfl, rfl, H', ⟨by have := HK1.out; omega⟩, ⟨HO116.out⟩, ⟨HO_21.out⟩, ⟨HB.out⟩⟩
                   · rw [if_neg c17] at H
                     exact absurd H (by simp)
                 · rw [if_neg c16] at H
                   have c16b0 : (t112 == 0) = false := beq_eq_false_iff_ne.mpr c16
                   have c16b1 : (t112 != 0) = true := bne_iff_ne.mpr c16
                   simp only [Option.some.injEq, Prod.mk.injEq] at H
                   obtain ⟨rfl, rfl, rfl⟩ := H
                   have p104 : 0 ≤ (x23_1 : Int) := of_decide_eq_true (by assumption)
                   have q104 : x23_1 < (t101.length : Int) := of_decide_eq_true (by assumption)
                   obtain ⟨ad104, e104, hx104_0⟩ := Kd.at_string (Kd.R_reads' HO_21.out).2.2 x23_1 p104 q104
                   cases e104
                   replace p104 := eq_true p104
                   replace q104 := eq_true q104
                   obtain ⟨Ao23, co23, eo23⟩ := Kd.R_slice HO_5.out
                   subst eo23
                   go_wp2_with (first | ((with_reducible refine gate_callee (f := 65) rfl ?_); refine goesL_ (some 41) rfl rfl Tryz.func65 (by kernel_rfl) rfl #[.string (rdOf ByteArray.empty t101 x23_1), .string (⟨#[61]⟩ : ByteArray)] rfl (by ((try simp only [List.map_toArray, List.map_cons, List.map_nil]); (rfl))) ?_; (with_reducible refine (strings_Cut.calls (rdOf ByteArray.empty t101 x23_1) (⟨#[61]⟩ : ByteArray) t105 t106 t107 _ A12.out).mono ?_); rintro e w24 ⟨rfl, hb⟩; refine ⟨_, rfl, ?_⟩; replace HO_5 := Aside0.mk (Kd.R_below HO_5.out hb); replace HO_21 := Aside0.mk (Kd.R_below HO_21.out hb); replace HB := Aside0.mk (below_step HB.out hb); clear hb) | ((with_reducible refine gate_callee (f := 66) rfl ?_); refine goesL_ (some 47) rfl rfl Tryz.func66 (by kernel_rfl) rfl #[.string t105] rfl (by ((try simp only [List.map_toArray, List.map_cons, List.map_nil]); (rfl))) ?_; (with_reducible refine (urlform_Unescape.calls t105 t108 t109 t110 _ A13.out).mono ?_); rintro e w25 ⟨rfl, hb⟩; refine ⟨_, rfl, ?_⟩; replace HO_5 := Aside0.mk (Kd.R_below HO_5.out hb); replace HO_21 := Aside0.mk (Kd.R_below HO_21.out hb); replace HB := Aside0.mk (below_step HB.out hb); clear hb) | ((with_reducible refine gate_callee (f := 66) rfl ?_); refine goesL_ (some 59) rfl rfl Tryz.func66 (by kernel_rfl) rfl #[.string t106] rfl (by ((try simp only [List.map_toArray, List.map_cons, List.map_nil]); (rfl))) ?_; (with_reducible refine (urlform_Unescape.calls t106 t111 t112 t113 _ A15.out).mono ?_); rintro e w26 ⟨rfl, hb⟩; refine ⟨_, rfl, ?_⟩; replace HO_5 := Aside0.mk (Kd.R_below HO_5.out hb); replace HO_21 := Aside0.mk (Kd.R_below HO_21.out hb); replace HB := Aside0.mk (below_step HB.out hb); clear hb))
                   try rw [Exit.noGoto_ret]
                   go_ret3
                   exact ⟨_, rfl, by (exact Kd.R_nil _ _ _ _ _), by (with_reducible exact HB.out)⟩
               · rw [if_neg c14] at H
                 have c14b0 : (t109 == 0) = false := beq_eq_false_iff_ne.mpr c14
                 have c14b1 : (t109 != 0) = true := bne_iff_ne.mpr c14
                 simp only [Option.some.injEq, Prod.mk.injEq] at H
                 obtain ⟨rfl, rfl, rfl⟩ := H
                 have p104 : 0 ≤ (x23_1 : Int) := of_decide_eq_true (by assumption)
                 have q104 : x23_1 < (t101.length : Int) := of_decide_eq_true (by assumption)
                 obtain ⟨ad104, e104, hx104_0⟩ := Kd.at_string (Kd.R_reads' HO_21.out).2.2 x23_1 p104 q104
                 cases e104
                 replace p104 := eq_true p104
                 replace q104 := eq_true q104
                 obtain ⟨Ao27, co27, eo27⟩ := Kd.R_slice HO_5.out
                 subst eo27
                 go_wp2_with (first | ((with_reducible refine gate_callee (f := 65) rfl ?_); refine goesL_ (some 41) rfl rfl Tryz.func65 (by kernel_rfl) rfl #[.string (rdOf ByteArray.empty t101 x23_1), .string (⟨#[61]⟩ : ByteArray)] rfl (by ((try simp only [List.map_toArray, List.map_cons, List.map_nil]); (rfl))) ?_; (with_reducible refine (strings_Cut.calls (rdOf ByteArray.empty t101 x23_1) (⟨#[61]⟩ : ByteArray) t105 t106 t107 _ A12.out).mono ?_); rintro e w28 ⟨rfl, hb⟩; refine ⟨_, rfl, ?_⟩; replace HO_5 := Aside0.mk (Kd.R_below HO_5.out hb); replace HO_21 := Aside0.mk (Kd.R_below HO_21.out hb); replace HB := Aside0.mk (below_step HB.out hb); clear hb) | ((with_reducible refine gate_callee (f := 66) rfl ?_); refine goesL_ (some 47) rfl rfl Tryz.func66 (by kernel_rfl) rfl #[.string t105] rfl (by ((try simp only [List.map_toArray, List.map_cons, List.map_nil]); (rfl))) ?_; (with_reducible refine (urlform_Unescape.calls t105 t108 t109 t110 _ A13.out).mono ?_); rintro e w29 ⟨rfl, hb⟩; refine ⟨_, rfl, ?_⟩; replace HO_5 := Aside0.mk (Kd.R_below HO_5.out hb); replace HO_21 := Aside0.mk (Kd.R_below HO_21.out hb); replace HB := Aside0.mk (below_step HB.out hb); clear hb))
                 try rw [Exit.noGoto_ret]
                 go_ret3
                 exact ⟨_, rfl, by (exact Kd.R_nil _ _ _ _ _), by (with_reducible exact HB.out)⟩
         · rw [if_neg c8] at H
           exact absurd H (by simp)
       · rw [if_neg c7] at H
         exact absurd H (by simp)
     · rw [if_neg c6] at H
       have c6b0 : decide (x23_1 < (t101.length : Int)) = false := decide_eq_false c6
       clear c6
       simp only [Option.some.injEq, Prod.mk.injEq] at H
       obtain ⟨rfl, rfl, rfl⟩ := H
       go_wp2
       try rw [Exit.noGoto_ret]
       go_ret3
       exact ⟨_, rfl, by ((with_reducible repeat (first | apply Kd.R_alloc  | apply Kd.R_drewN  | apply Kd.R_drew)); exact HO_5.out), by (with_reducible exact HB.out)⟩
def digest_Same.l0 : Nat → List Int → List Int → Int → Int → Int → Option (Bool)
 | 0, _, _, _, _, _ => none
 | k + 1, x0, x1, x5, x13, x14 => if x14 < x13 then (if 0 ≤ x14 then (if x14 < (x0.length : Int) then (if x14 < (x1.length : Int) then (digest_Same.l0 k x0 x1 (Go.bits .or .u8 x5 (Go.bits .xor .u8 (rd x0 x14) (rd x1 x14))) x13 (wrap64 (x14 + 1))) else (none)) else (none)) else (none)) else (some (x5 == 0))
def digest_Same.f (k : Nat) (l0 : List Int) (l1 : List Int) : Option (Bool) := if (l0.length : Int) = (l1.length : Int) then (digest_Same.l0 k l0 l1 0 (l0.length : Int) 0) else (some false)
set_option maxHeartbeats 8000000 in
set_option maxRecDepth 100000 in
theorem digest_Same.calls (k : Nat) (A0 : Option Addr) (c0 : Nat) (l0 : List Int) (A1 : Option Addr) (c1 : Nat) (l1 : List Int) (r : Bool) (w : World) (hr0 : Kd.C (Kd.int .u8) w A0 l0.length l0) (hc0 : l0.length ≤ c0) (hr1 : Kd.C (Kd.int .u8) w A1 l1.length l1) (hc1 : l1.length ≤ c1) (h : digest_Same.f k l0 l1 = some r) :
 Calls Tryz.prog 137 #[.slice A0 l0.length c0, .slice A1 l1.length c1] w fun e w' => e = .returned (.bool r) ∧ Drawn0 w w' := by
 have HR0 := Aside0.mk hr0
 have HC0 := Aside0.mk hc0
 clear hr0 hc0
 have HR1 := Aside0.mk hr1
 have HC1 := Aside0.mk hc1
 clear hr1 hc1
 have H : (if (l0.length : Int) = (l1.length : Int) then (digest_Same.l0 k l0 l1 0 (l0.length : Int) 0) else (some false)) = some r := h
 clear h
 by_cases c3 : (l0.length : Int) = (l1.length : Int)
 · rw [if_pos c3] at H
   have c3b0 : ((l0.length : Int) == (l1.length : Int)) = true := beq_iff_eq.mpr c3
   have c3b1 : ((l0.length : Int) != (l1.length : Int)) = false := bne_eq_false_iff_eq.mpr c3
   have c3b2 : (l0.length == l1.length) = true := by (simp at c3 ⊢; omega)
   clear c3
   have H' := Aside0.mk H
   clear H
   go_enter Tryz.func137, Tryz.ntmps137
   go_wp2
   repeat (go_quiet (fail); try go_wp2)
   go_loopg [5, 14] k (fun kq v5 v14 w' => ∃ (x5_1 : Int) (x14_1 : Int), v5 = .int .u8 x5_1 ∧ v14 = .int .i64 x14_1 ∧ Aside0 (digest_Same.l0 kq l0 l1 x5_1 (l0.length : Int) x14_1 = some r) ∧ Aside0 (kq ≤ k) ∧ Drawn0 w w')
   case atStart => exact ⟨(0), (0), rfl, rfl, H', ⟨Nat.le_refl _⟩, by repeat (exact Drawn0.refl _)⟩
   case round =>
    clear H' c3b0 c3b1 c3b2
    obtain ⟨x5_1, x14_1, rfl, rfl, HA, HK1, ⟨m1, rfl⟩⟩ := hrel
    cases gk with
    | zero => exact absurd HA.out (by simp [digest_Same.l0])
    | succ k1 =>
     have H := HA.out
     clear HA
     simp only [digest_Same.l0] at H
     by_cases c4 : x14_1 < (l0.length : Int)
     · rw [if_pos c4] at H
       have c4b0 : decide (x14_1 < (l0.length : Int)) = true := decide_eq_true c4
       clear c4
       by_cases c5 : 0 ≤ x14_1
       · rw [if_pos c5] at H
         have c5b0 : decide (0 ≤ x14_1) = true := decide_eq_true c5
         clear c5
         by_cases c6 : x14_1 < (l0.length : Int)
         · rw [if_pos c6] at H
           have c6b0 : decide (x14_1 < (l0.length : Int)) = true := decide_eq_true c6
           clear c6
           by_cases c7 : x14_1 < (l1.length : Int)
           · rw [if_pos c7] at H
             have c7b0 : decide (x14_1 < (l1.length : Int)) = true := decide_eq_true c7
             clear c7
             have H' := Aside0.mk H
             clear H
             have p117 : 0 ≤ (x14_1 : Int) := of_decide_eq_true (by assumption)
             have q117 : x14_1 < (l0.length : Int) := of_decide_eq_true (by assumption)
             obtain ⟨ad117, e117, hx117_0⟩ := Kd.at_int HR0.out x14_1 p117 q117
             cases e117
             replace p117 := eq_true p117
             replace q117 := eq_true q117
             have p118 : 0 ≤ (x14_1 : Int) := of_decide_eq_true (by assumption)
             have q118 : x14_1 < (l1.length : Int) := of_decide_eq_true (by assumption)
             obtain ⟨ad118, e118, hx118_0⟩ := Kd.at_int HR1.out x14_1 p118 q118
             cases e118
             replace p118 := eq_true p118
             replace q118 := eq_true q118
             go_wp2
             repeat (go_quiet (fail); try go_wp2)
             go_roundg k1
             case measure => have := HK1.out; omega
             case rel => exact ⟨(Go.bits .or .u8 x5_1 (Go.bits .xor .u8 (rd l0 x14_1) (rd l1 x14_1))), (wrap64 (x14_1 + 1)), rfl, rfl, H', ⟨by have := HK1.out; omega⟩, by repeat (first | exact Drawn0.refl _ | apply Drawn0.step)⟩
           · rw [if_neg c7] at H
             exact absurd H (by simp)
         · rw [if_neg c6] at H
           exact absurd H (by simp)
       · rw [if_neg c5] at H
         exact absurd H (by simp)
     · rw [if_neg c4] at H
       have c4b0 : decide (x14_1 < (l0.length : Int)) = false := decide_eq_false c4
       clear c4
       obtain rfl := Option.some.inj H
       go_wp2
       repeat (go_quiet (fail); try go_wp2)
       go_ret
       exact ⟨by (rfl), by repeat (first | exact Drawn0.refl _ | apply Drawn0.step)⟩
 · rw [if_neg c3] at H
   have c3b0 : ((l0.length : Int) == (l1.length : Int)) = false := beq_eq_false_iff_ne.mpr c3
   have c3b1 : ((l0.length : Int) != (l1.length : Int)) = true := bne_iff_ne.mpr c3
   have c3b2 : (l0.length == l1.length) = false := by (simp at c3 ⊢; omega)
   obtain rfl := Option.some.inj H
   go_enter Tryz.func137, Tryz.ntmps137
   go_wp2
   repeat (go_quiet (fail); try go_wp2)
   go_ret
   exact ⟨by (rfl), by repeat (exact Drawn0.refl _)⟩
def digest_Same.Pure : Prop := ∀ (l0 : List Int) (l1 : List Int), l0.length ≤ maxLen → l0.length * 1 ≤ 140737488351232 → (∀ x ∈ l0, (Lit.int .u8 x).wf = true) → l1.length ≤ maxLen → l1.length * 1 ≤ 140737488351232 → (∀ x ∈ l1, (Lit.int .u8 x).wf = true) → ∃ k, digest_Same.f k l0 l1 = some true
def urlform_Scopes_1.f (a0 : Int) : Option (Bool) := if a0 < 33 then (some true) else (if a0 > 126 then (some true) else (if a0 = 34 then (some true) else (some (a0 == 92))))
set_option maxHeartbeats 8000000 in
set_option maxRecDepth 100000 in
theorem urlform_Scopes_1.calls (a0 : Int) (r : Bool) (w : World) (h : urlform_Scopes_1.f a0 = some r) :
 Calls Tryz.prog 87 #[.int .u8 a0] w fun e w' => e = .returned (.bool r) ∧ Drawn0 w w' := by
 have H : (if a0 < 33 then (some true) else (if a0 > 126 then (some true) else (if a0 = 34 then (some true) else (some (a0 == 92))))) = some r := h
 clear h
 by_cases c2 : a0 < 33
 · rw [if_pos c2] at H
   have c2b0 : decide (a0 < 33) = true := decide_eq_true c2
   clear c2
   obtain rfl := Option.some.inj H
   go_enter Tryz.func87, Tryz.ntmps87
   go_wp2
   go_ret
   exact ⟨by (rfl), by repeat (exact Drawn0.refl _)⟩
 · rw [if_neg c2] at H
   have c2b0 : decide (a0 < 33) = false := decide_eq_false c2
   clear c2
   by_cases c3 : a0 > 126
   · rw [if_pos c3] at H
     have c3b0 : decide (126 < a0) = true := decide_eq_true c3
     clear c3
     obtain rfl := Option.some.inj H
     go_enter Tryz.func87, Tryz.ntmps87
     go_wp2
     go_ret
     exact ⟨by (rfl), by repeat (exact Drawn0.refl _)⟩
   · rw [if_neg c3] at H
     have c3b0 : decide (126 < a0) = false := decide_eq_false c3
     clear c3
     by_cases c4 : a0 = 34
     · rw [if_pos c4] at H
       have c4b0 : (a0 == 34) = true := beq_iff_eq.mpr c4
       have c4b1 : (a0 != 34) = false := bne_eq_false_iff_eq.mpr c4
       clear c4
       obtain rfl := Option.some.inj H
       go_enter Tryz.func87, Tryz.ntmps87
       go_wp2
       go_ret
       exact ⟨by (rfl), by repeat (exact Drawn0.refl _)⟩
     · rw [if_neg c4] at H
       have c4b0 : (a0 == 34) = false := beq_eq_false_iff_ne.mpr c4
       have c4b1 : (a0 != 34) = true := bne_iff_ne.mpr c4
       obtain rfl := Option.some.inj H
       go_enter Tryz.func87, Tryz.ntmps87
       go_wp2
       go_ret
       exact ⟨by (rfl), by repeat (exact Drawn0.refl _)⟩
end Go.Proofs.YtmimipgmhgalaaaGreatDoor.PAll
end
section
namespace Go.Proofs.YtmimipgmhgalaaaGreatDoor.PAll
open Go.RowKit Go.Proofs.YtmimipgmhgalaaaGreatDoorW.PrintWords Go.Proofs.YtmimipgmhgalaaaGreatDoorW.PrintLast Go.Proofs.YtmimipgmhgalaaaGreatDoorW.PrintMore
section
variable {P : Program} {ops : Array Oper} {o : Oper} {rest : List Oper} {a : Act} {w : World} {Q : Exit → Act → World → Prop}
theorem gate_calleeT {t : Tmp} {xs : Array Operand} {ts : Array TypeId} (_ho : o.op = .call { callee := .value (.tmp t), args := xs, argTypes := ts }) (h : wpList P ops Q (o :: rest) a w) : wpList P ops Q (o :: rest) a w := h
theorem goesT_ {oi : Oper} (t : Tmp) (N : Option Tmp) (hd : oi.dst = N) (hg : oi.guard = none) {f : FuncId} {fn : Func} {xs : Array Operand} {ts : Array TypeId} (hf : P.funcs[f]? = some fn) (hname : (fn.name == "runtime.NumGoroutine") = false) (hb : fn.body.isSome = true) (args : Array Value)
    (hop : oi.op = .call { callee := .value (.tmp t), args := xs, argTypes := ts }) (ht : a.eval (.tmp t) = .func (.func f) #[] #[]) (hargs : xs.map a.eval = args)
    (h : Calls P f args w fun e w' => ∃ v, e = .returned v ∧ wpList P ops Q rest (a.put N v) w') : wpList P ops Q (oi :: rest) a w := by
  refine wpList_plain hg fun K hK => ?_
  have he := enters_ hf hname hb args w
  have hrun : (execOp a.eval oi).run P w = .ok (.enter f args) w := by
    unfold execOp
    simp [hop, resolve, ht, Deferred.ofValue, invoke, hargs, he]
  unfold Oper.wp
  rw [hrun, Oper.upon_enter]
  refine h.mono fun e w'' hh => ?_
  obtain ⟨v, rfl, hk⟩ := hh
  subst hd
  exact hK _ _ hk
end
theorem bl_total (x y : List UInt8) : (!(Op.bytesLess x y || x == y)) = Op.bytesLess y x := by
  rw [bytesLess_eq, bytesLess_eq, Bool.eq_iff_iff]
  simp only [Bool.not_eq_true', Bool.or_eq_false_iff, decide_eq_false_iff_not, beq_eq_false_iff_ne, decide_eq_true_eq]
  constructor
  · rintro ⟨h1, h2⟩
    rcases Decidable.em (y < x) with h | h
    · exact h
    · exact absurd (List.le_antisymm (List.not_lt.1 h) (List.not_lt.1 h1)) h2
  · intro h
    exact ⟨fun h1 => List.lt_irrefl _ (List.lt_trans h h1), fun h1 => by subst h1; exact List.lt_irrefl _ h⟩
theorem str_gtr_ (t : TypeId) (a b : ByteArray) : binOp .gtr t (.string a) (.string b) = pure (.bool (Op.bytesLess b.toList a.toList)) := by
  rw [← bl_total]; simp [binOp, Op.stringOp]
theorem str_leq_ (t : TypeId) (a b : ByteArray) : binOp .leq t (.string a) (.string b) = pure (.bool !(Op.bytesLess b.toList a.toList)) := by
  rw [← bl_total]; simp [binOp, Op.stringOp]
theorem str_geq_ (t : TypeId) (a b : ByteArray) : binOp .geq t (.string a) (.string b) = pure (.bool !(Op.bytesLess a.toList b.toList)) := by
  simp [binOp, Op.stringOp]
end Go.Proofs.YtmimipgmhgalaaaGreatDoor.PAll
end
section
namespace Go.Proofs.YtmimipgmhgalaaaGreatDoor.PAll
open Go.RowKit Go.Proofs.YtmimipgmhgalaaaGreatDoorW.PrintWords Go.Sort
set_option linter.unusedVariables false
def toS (x : List UInt8) : ByteArray := ⟨x.toArray⟩
def ofS (s : ByteArray) : List UInt8 := s.data.toList
theorem toS_ofS (s : ByteArray) : toS (ofS s) = s := by cases s; simp [toS, ofS]
def sortS (l : List ByteArray) : List ByteArray := ((l.map ofS).mergeSort fun x y => decide (x ≤ y)).map toS
def compactS (l : List ByteArray) : List ByteArray := (Lib.compact (l.map ofS)).map toS
theorem heap_put_self {w : World} {g : Nat} {cur : Array Value} {e : TypeId} (hh : w.heap[g]? = some (.cells cur e (0, 0))) (d : Array (List UInt8)) : (putRow encStr w g 0 d).heap[g]? = some (.cells (putCells encStr 0 d cur) e (0, 0)) := by
  simp [putRow, mapBlock, Array.getElem?_modify, hh, onCells]
theorem heap_put_other {w : World} {g k : Nat} (hk : k ≠ g) (d : Array (List UInt8)) : (putRow encStr w g 0 d).heap[k]? = w.heap[k]? := by
  simp only [putRow, mapBlock, Array.getElem?_modify]
  rw [if_neg (by omega)]
theorem heap_put_size (w : World) (g : Nat) (d : Array (List UInt8)) : (putRow encStr w g 0 d).heap.size = w.heap.size := by simp [putRow, mapBlock]
theorem put_take (d : Array (List UInt8)) (cur : Array Value) (m : Nat) (hm : m ≤ d.size) (hc : d.size ≤ cur.size) : (putCells encStr 0 d cur).toList.take m = (d.toList.take m).map encStr := by
  apply List.ext_getElem?
  intro j
  by_cases hj : j < m
  · rw [List.getElem?_take_of_lt hj, List.getElem?_map, List.getElem?_take_of_lt hj]
    simp only [putCells, Array.getElem?_toList, Array.getElem?_mapIdx]
    rw [Array.getElem?_eq_getElem (show j < cur.size by omega), Array.getElem?_eq_getElem (show j < d.size by omega)]
    simp only [Option.map_some]
    rw [if_pos ⟨Nat.zero_le _, by omega⟩, Nat.sub_zero, getElem!_pos d j (by omega)]
  · rw [List.getElem?_eq_none (by rw [List.length_take]; omega), List.getElem?_eq_none (by rw [List.length_map, List.length_take]; omega)]
theorem open_R {w : World} {base : Nat} {P : Nat → Prop} {v : Value} {l : List ByteArray} (h : Kd.R Kd.string 9 w base P v l) (h0 : l ≠ []) :
    ∃ g cap cur, v = .slice (some ⟨g, 0, none⟩) l.length cap ∧ P g ∧ base ≤ g ∧ w.heap[g]? = some (.cells cur 9 (0, 0)) ∧ l.length ≤ cap ∧ cap ≤ maxLen ∧ cur.size = cap ∧ cur.toList.take l.length = l.map Value.string := by
  obtain ⟨hP, inner, ⟨hl, ho⟩, hr⟩ := h
  have hin : inner = l.map Value.string := by
    apply List.ext_getElem?
    intro j
    have hsz : inner.length = l.length := by have := hr.1; simpa [Kd.string, Kd.scalar] using this
    by_cases hj : j < l.length
    · have := hr.2 j l[j] (List.getElem?_eq_getElem hj)
      have h2 : (inner.drop (j * 1)).take 1 = [Value.string l[j]] := this
      rw [Nat.mul_one] at h2
      rw [List.getElem?_map, List.getElem?_eq_getElem hj]
      have h3 : ((inner.drop j).take 1)[0]? = some (Value.string l[j]) := by rw [h2]; rfl
      rw [List.getElem?_take_of_lt (by omega), List.getElem?_drop] at h3
      simpa using h3
    · rw [List.getElem?_eq_none (by omega), List.getElem?_eq_none (by rw [List.length_map]; omega)]
  rcases ho with ⟨rfl, hn⟩ | ⟨g, cap, cur, rfl, hg, hh, hc1, hc2, hc3, ht⟩
  · exact absurd (List.eq_nil_of_length_eq_zero hn) h0
  · refine ⟨g, cap, cur, rfl, hP g rfl, hg, hh, hc1, hc2, by simpa [Kd.string, Kd.scalar] using hc3, ?_⟩
    rw [← hin]
    simpa [Kd.string, Kd.scalar] using ht
theorem holds_R {w : World} {g cap : Nat} {cur : Array Value} {l : List ByteArray} (hh : w.heap[g]? = some (.cells cur 9 (0, 0))) (hc : l.length ≤ cap) (hs : cur.size = cap) (ht : cur.toList.take l.length = l.map Value.string) : Holds encStr w g 0 (l.map ofS).toArray := by
  intro j hj
  have hj' : j < l.length := by simpa using hj
  refine ⟨?_, Lib.frozen_of_heap hh _⟩
  rw [Lib.cell_of_heap hh]
  have h1 : (cur.toList.take l.length)[j]? = some (Value.string l[j]) := by rw [ht]; simp [hj']
  rw [List.getElem?_take_of_lt hj'] at h1
  rw [Nat.zero_add, ← Array.getElem?_toList, h1, getElem!_pos _ j (by simpa using hj)]
  simp only [List.getElem_toArray, List.getElem_map]
  show _ = some (Value.string (toS (ofS l[j])))
  rw [toS_ofS]
theorem R_of_put {w : World} {base base' g cap : Nat} {cur : Array Value} {P P' : Nat → Prop} (hg : base' ≤ g) (hP : P' g) (hh : w.heap[g]? = some (.cells cur 9 (0, 0))) (hcap : cap ≤ maxLen) (hs : cur.size = cap) (d : List (List UInt8)) (m : Nat) (hm : m ≤ d.length) (hd : d.length ≤ cap)
    {W : World} (hW : W.heap[g]? = (putRow encStr w g 0 d.toArray).heap[g]?) : Kd.R Kd.string 9 W base' P' (.slice (some ⟨g, 0, none⟩) m cap) ((d.take m).map toS) := by
  have hl : ((d.take m).map toS).length = m := by simp [hm]
  have h := heap_put_self hh d.toArray
  refine ⟨fun k hk => ?_, ((d.take m).map toS).map Value.string, ⟨?_, .inr ⟨g, cap, putCells encStr 0 d.toArray cur, ?_, hg, hW.trans h, ?_, hcap, ?_, ?_⟩⟩, reps_strings _⟩
  · have : g = k := by simpa [Value.ownBlock] using hk
    subst this
    exact hP
  · simp [Kd.string, Kd.scalar]
  · rw [hl]
  · rw [hl]; omega
  · simp [Kd.string, Kd.scalar, putCells, hs]
  · have hz : Kd.string.sz = 1 := rfl
    rw [hl, hz, Nat.mul_one, put_take _ _ _ (by simpa using hm) (by simp; omega)]
    rw [List.toList_toArray, List.map_map]
    rfl
def slices_Sort_string_string.f (l0 : List ByteArray) : Option (List ByteArray) := if l0 ≠ [] ∧ l0.length < 4611686018427387904 then some (sortS l0) else none
theorem slices_Sort_string_string.calls (P0_ : Nat → Prop) (u9000_ : Value) (l0 : List ByteArray) (r : List ByteArray) (w0 w : World) (hB : Below w0.heap.size w0 w) (ho0 : Kd.R Kd.string 9 w w0.heap.size P0_ u9000_ l0) (h : slices_Sort_string_string.f l0 = some r) :
    Calls Tryz.prog 88 #[u9000_] w fun e w' => e = .returned (.tuple #[]) ∧ Kd.R Kd.string 9 w' w0.heap.size (fun k_ => (P0_ k_ ∨ w.heap.size ≤ k_)) u9000_ r ∧ Below w0.heap.size w0 w' ∧ Kept w w' (fun k_ => P0_ k_) := by
  unfold slices_Sort_string_string.f at h
  split at h
  · rename_i hh
    injection h with h
    subst h
    obtain ⟨h0, hsz⟩ := hh
    obtain ⟨g, cap, cur, rfl, hP, hg, hheap, hc1, hc2, hc3, ht⟩ := open_R ho0 h0
    have hlt : g < w.heap.size := (Array.getElem?_eq_some_iff.1 hheap).1
    have hH := holds_R hheap hc1 hc3 ht
    have hlen : (l0.map ofS).length = l0.length := by simp
    have hcall := Tryz.slices_Sort_string g 0 cap (l0.map ofS) w hH hlt (by rw [hlen]; exact hsz)
    rw [hlen] at hcall
    refine hcall.mono fun e w' ⟨he, n, os, hw⟩ => ?_
    have hsl : ((l0.map ofS).mergeSort fun x y => decide (x ≤ y)).length = l0.length := by simp
    have hbk : ∀ k, k < w.heap.size → w'.heap[k]? = (putRow encStr w g 0 ((l0.map ofS).mergeSort fun x y => decide (x ≤ y)).toArray).heap[k]? := by
      intro k hk
      rw [hw]
      show (_ ++ os)[k]? = _
      rw [Array.getElem?_append_left (by rw [heap_put_size]; exact hk)]
      rfl
    have hsize : w.heap.size ≤ w'.heap.size := by
      rw [hw]
      show _ ≤ (_ ++ os).size
      rw [Array.size_append, heap_put_size]
      exact Nat.le_add_right _ _
    refine ⟨he, ?_, ?_, hsize, fun i hi hn => ?_⟩
    · have := R_of_put (P := P0_) (base := w0.heap.size) (base' := w0.heap.size) (P' := fun k_ => (P0_ k_ ∨ w.heap.size ≤ k_)) hg (.inl hP) hheap hc2 hc3 ((l0.map ofS).mergeSort fun x y => decide (x ≤ y)) l0.length (by omega) (by omega) (W := w') (hbk g hlt)
      rw [List.take_of_length_le (by omega)] at this
      exact this
    · refine ⟨?_, ?_, ?_, Nat.le_trans hB.size hsize, fun k hk => ?_⟩
      · rw [hw]; exact hB.os
      · rw [hw]; exact hB.tape
      · rw [hw]; exact hB.output
      · rw [hbk k (Nat.lt_of_lt_of_le hk hB.size), heap_put_other (by omega)]
        exact hB.block k hk
    · rw [hbk i hi, heap_put_other (k := i) (g := g) (fun e => hn (by subst e; exact hP))]
  · cases h
def slices_Compact_string_string.f (l0 : List ByteArray) : Option (List ByteArray) := if l0 ≠ [] then some (compactS l0) else none
theorem compact_le (zs : List (List UInt8)) : (Lib.compact zs).length ≤ zs.length := by
  unfold Lib.compact Lib.compactUpTo
  rw [List.length_map]
  exact Nat.le_trans (List.length_filter_le _ _) (by simp)
theorem slices_Compact_string_string.calls (P0_ : Nat → Prop) (u9000_ : Value) (l0 : List ByteArray) (r : List ByteArray) (w0 w : World) (hB : Below w0.heap.size w0 w) (ho0 : Kd.R Kd.string 9 w w0.heap.size P0_ u9000_ l0) (h : slices_Compact_string_string.f l0 = some r) :
    Calls Tryz.prog 89 #[u9000_] w fun e w' => ∃ v0_ : Value, e = .returned v0_ ∧ Kd.R Kd.string 9 w' w0.heap.size (fun k_ => (P0_ k_ ∨ w.heap.size ≤ k_)) v0_ r ∧ Below w0.heap.size w0 w' ∧ Kept w w' (fun k_ => P0_ k_) := by
  unfold slices_Compact_string_string.f at h
  split at h
  · rename_i h0
    injection h with h
    subst h
    obtain ⟨g, cap, cur, rfl, hP, hg, hheap, hc1, hc2, hc3, ht⟩ := open_R ho0 h0
    have hlt : g < w.heap.size := (Array.getElem?_eq_some_iff.1 hheap).1
    have hH := holds_R hheap hc1 hc3 ht
    have hlen : (l0.map ofS).length = l0.length := by simp
    have hcall := Tryz.slices_Compact_string g 0 cap (l0.map ofS) w hH (by rw [hlen]; unfold maxLen at hc2; omega) (by rw [hlen]; exact hc1)
    rw [hlen] at hcall
    have hle := compact_le (l0.map ofS)
    rw [hlen] at hle
    refine hcall.mono fun e w' ⟨he, q, hw⟩ => ?_
    have hdl : (Lib.compact (l0.map ofS) ++ List.replicate (l0.length - (Lib.compact (l0.map ofS)).length) []).length = l0.length := by rw [List.length_append, List.length_replicate]; omega
    have hbk : ∀ k : Nat, w'.heap[k]? = (putRow encStr w g 0 (Lib.compact (l0.map ofS) ++ List.replicate (l0.length - (Lib.compact (l0.map ofS)).length) []).toArray).heap[k]? := by
      intro k
      rw [hw]
      rfl
    have hsize : w.heap.size ≤ w'.heap.size := by
      rw [hw]
      exact Nat.le_of_eq (heap_put_size w g _).symm
    refine ⟨_, he, ?_, ?_, hsize, fun i hi hn => ?_⟩
    · have := R_of_put (P := P0_) (base := w0.heap.size) (base' := w0.heap.size) (P' := fun k_ => (P0_ k_ ∨ w.heap.size ≤ k_)) hg (.inl hP) hheap hc2 hc3 (Lib.compact (l0.map ofS) ++ List.replicate (l0.length - (Lib.compact (l0.map ofS)).length) []) (Lib.compact (l0.map ofS)).length (by omega) (by omega) (W := w') (hbk g)
      rw [List.take_left' rfl] at this
      exact this
    · refine ⟨?_, ?_, ?_, Nat.le_trans hB.size hsize, fun k hk => ?_⟩
      · rw [hw]; exact hB.os
      · rw [hw]; exact hB.tape
      · rw [hw]; exact hB.output
      · rw [hbk k, heap_put_other (by omega)]
        exact hB.block k hk
    · rw [hbk i, heap_put_other (k := i) (g := g) (fun e => hn (by subst e; exact hP))]
  · cases h
end Go.Proofs.YtmimipgmhgalaaaGreatDoor.PAll
end
section
namespace Go.Proofs.YtmimipgmhgalaaaGreatDoor.PAll
open Go.RowKit Go.Proofs.YtmimipgmhgalaaaGreatDoorW.PrintWords Go.Proofs.YtmimipgmhgalaaaGreatDoorW.PrintLast Go.Proofs.YtmimipgmhgalaaaGreatDoorW.PrintMore
attribute [local go_sem] max2_int min2_int max_two min_two max_three min_three max_four min_four
set_option linter.unusedVariables false
set_option linter.unusedSimpArgs false
mutual
def urlform_Scopes.l0 : Nat → List ByteArray → Int → Int → Option (List ByteArray × Int)
 | 0, _, _, _ => none
 | k + 1, x15, x17, x18 => if x18 < x17 then (if 0 ≤ x18 then (if x18 < (x15.length : Int) then (if (rdOf ByteArray.empty x15 x18).toList = ([] : List UInt8) then (some (([] : List ByteArray), 33)) else (urlform_Scopes.l1 k (rdOf ByteArray.empty x15 x18) x15 x17 x18 ((rdOf ByteArray.empty x15 x18).size : Int) 0)) else (none)) else (none)) else ((slices_Sort_string_string.f x15).bind fun t124 => ((slices_Compact_string_string.f t124).bind fun t125 => (if (t125.length : Int) > 32 then (some (([] : List ByteArray), 32)) else (some (t125, 0)))))
def urlform_Scopes.l1 : Nat → ByteArray → List ByteArray → Int → Int → Int → Int → Option (List ByteArray × Int)
 | 0, _, _, _, _, _, _ => none
 | k + 1, x7, x15, x17, x18, x25, x26 => if x26 < x25 then (if 0 ≤ x26 then (if x26 < (x7.size : Int) then ((urlform_Scopes_1.f (bt x7 x26)).bind fun t123 => (if t123 = true then (some (([] : List ByteArray), 33)) else (urlform_Scopes.l1 k x7 x15 x17 x18 x25 (wrap64 (x26 + 1))))) else (none)) else (none)) else (urlform_Scopes.l0 k x15 x17 (wrap64 (x18 + 1)))
end
def urlform_Scopes.f (k : Nat) (a0 : ByteArray) : Option (List ByteArray × Int) := if (a0.size : Int) > 256 then (some (([] : List ByteArray), 1)) else (if a0.toList = ([] : List UInt8) then (some (([] : List ByteArray), 0)) else ((strings_Split.f a0 (⟨#[32]⟩ : ByteArray)).bind fun t119 => (urlform_Scopes.l0 k t119 (t119.length : Int) 0)))
set_option maxHeartbeats 8000000 in
set_option maxRecDepth 100000 in
theorem urlform_Scopes.calls (k : Nat) (a0 : ByteArray) (r1 : List ByteArray) (r2 : Int) (w : World) (h : urlform_Scopes.f k a0 = some (r1, r2)) :
 Calls Tryz.prog 54 #[.string a0] w fun e w' => ∃ v0_ : Value, e = .returned (.tuple #[v0_, .int .i64 r2]) ∧ Kd.R Kd.string 9 w' w.heap.size (fun _ => True) v0_ r1 ∧ Below w.heap.size w w' := by
 have HB := Aside0.mk (Below.refl w.heap.size w)
 have H : (if (a0.size : Int) > 256 then (some (([] : List ByteArray), 1)) else (if a0.toList = ([] : List UInt8) then (some (([] : List ByteArray), 0)) else ((strings_Split.f a0 (⟨#[32]⟩ : ByteArray)).bind fun t119 => (urlform_Scopes.l0 k t119 (t119.length : Int) 0)))) = some (r1, r2) := h
 clear h
 by_cases c2 : (a0.size : Int) > 256
 · rw [if_pos c2] at H
   have c2b0 : decide (256 < (a0.size : Int)) = true := decide_eq_true c2
   have c2b1 : decide (256 < a0.size) = true := decide_eq_true (by omega)
   clear c2
   simp only [Option.some.injEq, Prod.mk.injEq] at H
   obtain ⟨rfl, rfl⟩ := H
   go_enter Tryz.func54, Tryz.ntmps54
   go_wp2
   go_ret2
   exact ⟨_, rfl, by (exact Kd.R_nil _ _ _ _ _), by (with_reducible exact HB.out)⟩
 · rw [if_neg c2] at H
   have c2b0 : decide (256 < (a0.size : Int)) = false := decide_eq_false c2
   have c2b1 : decide (256 < a0.size) = false := decide_eq_false (by omega)
   clear c2
   by_cases c3 : a0.toList = ([] : List UInt8)
   · rw [if_pos c3] at H
     have c3b0 : (a0.toList == ([] : List UInt8)) = true := beq_iff_eq.mpr c3
     have c3b1 : (a0.toList != ([] : List UInt8)) = false := bne_eq_false_iff_eq.mpr c3
     clear c3
     simp only [Option.some.injEq, Prod.mk.injEq] at H
     obtain ⟨rfl, rfl⟩ := H
     go_enter Tryz.func54, Tryz.ntmps54
     go_wp2
     go_ret2
     exact ⟨_, rfl, by (exact Kd.R_nil _ _ _ _ _), by (with_reducible exact HB.out)⟩
   · rw [if_neg c3] at H
     have c3b0 : (a0.toList == ([] : List UInt8)) = false := beq_eq_false_iff_ne.mpr c3
     have c3b1 : (a0.toList != ([] : List UInt8)) = true := bne_iff_ne.mpr c3
     replace H := Option.bind_eq_some_iff.mp H
     obtain ⟨t119, A40, H⟩ := H
     replace H : (urlform_Scopes.l0 k t119 (t119.length : Int) 0) = some (r1, r2) := H
     have A4 := Aside0.mk A40
     clear A40
     have H' := Aside0.mk H
     clear H
     go_enter Tryz.func54, Tryz.ntmps54
     go_wp2_with (first | ((with_reducible refine gate_callee (f := 50) rfl ?_); refine goesL_ (some 15) rfl rfl Tryz.func50 (by kernel_rfl) rfl #[.string a0, .string (⟨#[32]⟩ : ByteArray)] rfl (by ((try simp only [List.map_toArray, List.map_cons, List.map_nil]); (rfl))) ?_; (with_reducible refine (strings_Split.calls a0 (⟨#[32]⟩ : ByteArray) t119 _ A4.out).mono ?_); rintro e w5 ⟨v120, rfl, ho0, hb⟩; refine ⟨_, rfl, ?_⟩; have HO121 := Aside0.mk (Kd.R_lower ho0 (below_size HB.out)); replace HB := Aside0.mk (below_step HB.out hb); clear hb ho0; obtain ⟨Ao6, co6, eo6⟩ := Kd.R_slice HO121.out; subst eo6))
     go_loopg [18] k (fun kq v18 w' => ∃ (x18_1 : Int), v18 = .int .i64 x18_1 ∧ Aside0 (urlform_Scopes.l0 kq t119 (t119.length : Int) x18_1 = some (r1, r2)) ∧ Aside0 (kq ≤ k) ∧ Aside0 (Kd.R Kd.string 9 w' w.heap.size (fun _ => True) (.slice Ao6 t119.length co6) t119) ∧ Aside0 (Below w.heap.size w w'))
     case atStart => exact ⟨(0), rfl, H', ⟨Nat.le_refl _⟩, ⟨HO121.out⟩, ⟨HB.out⟩⟩
     case round =>
      clear H' c2b0 c2b1 c3 c3b0 c3b1
      obtain ⟨x18_1, rfl, HA, HK1, HO_15, HB⟩ := hrel
      cases gk with
      | zero => exact absurd HA.out (by simp [urlform_Scopes.l0])
      | succ k1 =>
       have H := HA.out
       clear HA
       simp only [urlform_Scopes.l0] at H
       by_cases c7 : x18_1 < (t119.length : Int)
       · rw [if_pos c7] at H
         have c7b0 : decide (x18_1 < (t119.length : Int)) = true := decide_eq_true c7
         clear c7
         by_cases c8 : 0 ≤ x18_1
         · rw [if_pos c8] at H
           have c8b0 : decide (0 ≤ x18_1) = true := decide_eq_true c8
           clear c8
           by_cases c9 : x18_1 < (t119.length : Int)
           · rw [if_pos c9] at H
             have c9b0 : decide (x18_1 < (t119.length : Int)) = true := decide_eq_true c9
             clear c9
             by_cases c10 : (rdOf ByteArray.empty t119 x18_1).toList = ([] : List UInt8)
             · rw [if_pos c10] at H
               have c10b0 : ((rdOf ByteArray.empty t119 x18_1).toList == ([] : List UInt8)) = true := beq_iff_eq.mpr c10
               have c10b1 : ((rdOf ByteArray.empty t119 x18_1).toList != ([] : List UInt8)) = false := bne_eq_false_iff_eq.mpr c10
               clear c10
               simp only [Option.some.injEq, Prod.mk.injEq] at H
               obtain ⟨rfl, rfl⟩ := H
               have p122 : 0 ≤ (x18_1 : Int) := of_decide_eq_true (by assumption)
               have q122 : x18_1 < (t119.length : Int) := of_decide_eq_true (by assumption)
               obtain ⟨ad122, e122, hx122_0⟩ := Kd.at_string (Kd.R_reads' HO_15.out).2.2 x18_1 p122 q122
               cases e122
               replace p122 := eq_true p122
               replace q122 := eq_true q122
               go_wp2
               go_ret2
               exact ⟨_, rfl, by (exact Kd.R_nil _ _ _ _ _), by (with_reducible exact HB.out)⟩
             · rw [if_neg c10] at H
               have c10b0 : ((rdOf ByteArray.empty t119 x18_1).toList == ([] : List UInt8)) = false := beq_eq_false_iff_ne.mpr c10
               have c10b1 : ((rdOf ByteArray.empty t119 x18_1).toList != ([] : List UInt8)) = true := bne_iff_ne.mpr c10
               have H' := Aside0.mk H
               clear H
               have p122 : 0 ≤ (x18_1 : Int) := of_decide_eq_true (by assumption)
               have q122 : x18_1 < (t119.length : Int) := of_decide_eq_true (by assumption)
               obtain ⟨ad122, e122, hx122_0⟩ := Kd.at_string (Kd.R_reads' HO_15.out).2.2 x18_1 p122 q122
               cases e122
               replace p122 := eq_true p122
               replace q122 := eq_true q122
               go_wp2
               go_loopg [26] k1 (fun kq v26 w' => ∃ (x26_2 : Int), v26 = .int .i64 x26_2 ∧ Aside0 (urlform_Scopes.l1 kq (rdOf ByteArray.empty t119 x18_1) t119 (t119.length : Int) x18_1 ((rdOf ByteArray.empty t119 x18_1).size : Int) x26_2 = some (r1, r2)) ∧ Aside0 (kq ≤ k1) ∧ Aside0 (Kd.R Kd.string 9 w' w.heap.size (fun _ => True) (.slice (some ad122) t119.length co6) t119) ∧ Aside0 (Below w.heap.size w w'))
               case atStart => exact ⟨(0), rfl, H', ⟨Nat.le_refl _⟩, ⟨HO_15.out⟩, ⟨HB.out⟩⟩
               case round =>
                clear H' c7b0 c8b0 c9b0 c10 c10b0 c10b1 hx122_0 p122 q122
                obtain ⟨x26_2, rfl, HA, HK2, HO_15, HB⟩ := hrel
                cases gk with
                | zero => exact absurd HA.out (by simp [urlform_Scopes.l1])
                | succ k2 =>
                 have H := HA.out
                 clear HA
                 simp only [urlform_Scopes.l1] at H
                 by_cases c11 : x26_2 < ((rdOf ByteArray.empty t119 x18_1).size : Int)
                 · rw [if_pos c11] at H
                   have c11b0 : decide (x26_2 < ((rdOf ByteArray.empty t119 x18_1).size : Int)) = true := decide_eq_true c11
                   clear c11
                   by_cases c12 : 0 ≤ x26_2
                   · rw [if_pos c12] at H
                     have c12b0 : decide (0 ≤ x26_2) = true := decide_eq_true c12
                     clear c12
                     by_cases c13 : x26_2 < ((rdOf ByteArray.empty t119 x18_1).size : Int)
                     · rw [if_pos c13] at H
                       have c13b0 : decide (x26_2 < ((rdOf ByteArray.empty t119 x18_1).size : Int)) = true := decide_eq_true c13
                       clear c13
                       replace H := Option.bind_eq_some_iff.mp H
                       obtain ⟨t123, A150, H⟩ := H
                       replace H : (if t123 = true then (some (([] : List ByteArray), 33)) else (urlform_Scopes.l1 k2 (rdOf ByteArray.empty t119 x18_1) t119 (t119.length : Int) x18_1 ((rdOf ByteArray.empty t119 x18_1).size : Int) (wrap64 (x26_2 + 1)))) = some (r1, r2) := H
                       have A15 := Aside0.mk A150
                       clear A150
                       by_cases c16 : t123 = true
                       · subst c16
                         have H1 : (some (([] : List ByteArray), 33)) = some (r1, r2) := by rw [if_pos rfl] at H; exact H
                         clear H
                         have H := H1
                         clear H1
                         simp only [Option.some.injEq, Prod.mk.injEq] at H
                         obtain ⟨rfl, rfl⟩ := H
                         have p14 : 0 ≤ (x26_2 : Int) := of_decide_eq_true (by assumption)
                         have q14 : x26_2 < ((rdOf ByteArray.empty t119 x18_1).size : Int) := of_decide_eq_true (by assumption)
                         have hx14 := bt_at (rdOf ByteArray.empty t119 x18_1) x26_2
                         replace p14 := eq_true p14
                         replace q14 := eq_true q14
                         go_wp2_with (first | ((with_reducible refine gate_calleeT (t := 29) rfl ?_); refine goesT_ 29 (some 33) rfl rfl Tryz.func87 (by kernel_rfl) rfl #[.int .u8 (bt (rdOf ByteArray.empty t119 x18_1) x26_2)] rfl rfl (by ((try simp only [List.map_toArray, List.map_cons, List.map_nil]); (rfl))) ?_; (with_reducible refine (urlform_Scopes_1.calls (bt (rdOf ByteArray.empty t119 x18_1) x26_2) true _ A15.out).mono ?_); rintro e w' ⟨rfl, ⟨nd, rfl⟩⟩; refine ⟨_, rfl, ?_⟩))
                         go_ret2
                         exact ⟨_, rfl, by (exact Kd.R_nil _ _ _ _ _), by (repeat (with_reducible first | exact HB.out | apply pw_below_drewN))⟩
                       · replace c16 := Bool.eq_false_iff.mpr c16
                         subst c16
                         have H1 : (urlform_Scopes.l1 k2 (rdOf ByteArray.empty t119 x18_1) t119 (t119.length : Int) x18_1 ((rdOf ByteArray.empty t119 x18_1).size : Int) (wrap64 (x26_2 + 1))) = some (r1, r2) := by rw [if_neg (show ¬ (false = true) by decide)] at H; exact H
                         clear H
                         have H := H1
                         clear H1
                         have H' := Aside0.mk H
                         clear H
                         have p14 : 0 ≤ (x26_2 : Int) := of_decide_eq_true (by assumption)
                         have q14 : x26_2 < ((rdOf ByteArray.empty t119 x18_1).size : Int) := of_decide_eq_true (by assumption)
                         have hx14 := bt_at (rdOf ByteArray.empty t119 x18_1) x26_2
                         replace p14 := eq_true p14
                         replace q14 := eq_true q14
                         go_wp2_with (first | ((with_reducible refine gate_calleeT (t := 29) rfl ?_); refine goesT_ 29 (some 33) rfl rfl Tryz.func87 (by kernel_rfl) rfl #[.int .u8 (bt (rdOf ByteArray.empty t119 x18_1) x26_2)] rfl rfl (by ((try simp only [List.map_toArray, List.map_cons, List.map_nil]); (rfl))) ?_; (with_reducible refine (urlform_Scopes_1.calls (bt (rdOf ByteArray.empty t119 x18_1) x26_2) false _ A15.out).mono ?_); rintro e w' ⟨rfl, ⟨nd, rfl⟩⟩; refine ⟨_, rfl, ?_⟩))
                         go_roundg k2
                         case measure => have := HK1.out; have := HK2.out; omega
                         case rel => exact ⟨(wrap64 (x26_2 + 1)), rfl, H', ⟨by have := HK1.out; have := HK2.out; omega⟩, ⟨by ((with_reducible repeat (apply Kd.R_drewN)); exact HO_15.out)⟩, ⟨by (repeat (with_reducible first | exact HB.out | apply pw_below_drewN))⟩⟩
                     · rw [if_neg c13] at H
                       exact absurd H (by simp)
                   · rw [if_neg c12] at H
                     exact absurd H (by simp)
                 · rw [if_neg c11] at H
                   have c11b0 : decide (x26_2 < ((rdOf ByteArray.empty t119 x18_1).size : Int)) = false := decide_eq_false c11
                   clear c11
                   have H' := Aside0.mk H
                   clear H
                   go_wp2
                   go_roundg k2
                   case measure => have := HK1.out; have := HK2.out; omega
                   case rel => exact ⟨(wrap64 (x18_1 + 1)), rfl, H', ⟨by have := HK1.out; have := HK2.out; omega⟩, ⟨HO_15.out⟩, ⟨HB.out⟩⟩
           · rw [if_neg c9] at H
             exact absurd H (by simp)
         · rw [if_neg c8] at H
           exact absurd H (by simp)
       · rw [if_neg c7] at H
         have c7b0 : decide (x18_1 < (t119.length : Int)) = false := decide_eq_false c7
         clear c7
         replace H := Option.bind_eq_some_iff.mp H
         obtain ⟨t124, A170, H⟩ := H
         replace H : ((slices_Compact_string_string.f t124).bind fun t125 => (if (t125.length : Int) > 32 then (some (([] : List ByteArray), 32)) else (some (t125, 0)))) = some (r1, r2) := H
         have A17 := Aside0.mk A170
         clear A170
         replace H := Option.bind_eq_some_iff.mp H
         obtain ⟨t125, A180, H⟩ := H
         replace H : (if (t125.length : Int) > 32 then (some (([] : List ByteArray), 32)) else (some (t125, 0))) = some (r1, r2) := H
         have A18 := Aside0.mk A180
         clear A180
         by_cases c19 : (t125.length : Int) > 32
         · rw [if_pos c19] at H
           have c19b0 : decide (32 < (t125.length : Int)) = true := decide_eq_true c19
           have c19b1 : decide (32 < t125.length) = true := decide_eq_true (by omega)
           clear c19
           simp only [Option.some.injEq, Prod.mk.injEq] at H
           obtain ⟨rfl, rfl⟩ := H
           go_wp2_with (first | ((with_reducible refine gate_callee (f := 88) rfl ?_); refine goesL_ (some 37) rfl rfl Tryz.func88 (by kernel_rfl) rfl #[.slice Ao6 t119.length co6] rfl (by ((try simp only [List.map_toArray, List.map_cons, List.map_nil]); (rfl))) ?_; (with_reducible refine (slices_Sort_string_string.calls (fun k_ => some k_ = (.slice Ao6 t119.length co6 : Value).ownBlock) (.slice Ao6 t119.length co6) t119 t124 w _ ?side1 ?side2 A17.out).mono ?_); (case side1 => repeat ((with_reducible (exact HB.out)))); (case side2 => exact Kd.R_tight rfl HO_15.out); rintro e w20 ⟨rfl, hy0, hb, hkp⟩; refine ⟨_, rfl, ?_⟩; replace HO_15 := Aside0.mk (Kd.R_reok rfl hy0 (fun k_ e_ => HO_15.out.1 k_ e_)); replace HB := Aside0.mk hb; clear hb hkp hy0) | ((with_reducible refine gate_callee (f := 89) rfl ?_); refine goesL_ (some 39) rfl rfl Tryz.func89 (by kernel_rfl) rfl #[.slice Ao6 t119.length co6] rfl (by ((try simp only [List.map_toArray, List.map_cons, List.map_nil]); (rfl))) ?_; (with_reducible refine (slices_Compact_string_string.calls (fun k_ => some k_ = (.slice Ao6 t119.length co6 : Value).ownBlock) (.slice Ao6 t119.length co6) t124 t125 w _ ?side1 ?side2 A18.out).mono ?_); (case side1 => repeat ((with_reducible (exact HB.out)))); (case side2 => exact Kd.R_tight rfl HO_15.out); rintro e w21 ⟨v126, rfl, ho0, hb, hkp⟩; refine ⟨_, rfl, ?_⟩; have n0_ := Aside0.mk (Kd.R_mono (ok' := fun k_ => True) ho0 (fun k_ hk_ => trivial)); have n1_ := Aside0.mk hb; clear HB HO_15; have HO127 := n0_; have HB := n1_; clear n0_ n1_; clear hb hkp ho0; obtain ⟨Ao22, co22, eo22⟩ := Kd.R_slice HO127.out; subst eo22))
           go_ret2
           exact ⟨_, rfl, by (exact Kd.R_nil _ _ _ _ _), by (with_reducible exact HB.out)⟩
         · rw [if_neg c19] at H
           have c19b0 : decide (32 < (t125.length : Int)) = false := decide_eq_false c19
           have c19b1 : decide (32 < t125.length) = false := decide_eq_false (by omega)
           clear c19
           simp only [Option.some.injEq, Prod.mk.injEq] at H
           obtain ⟨rfl, rfl⟩ := H
           go_wp2_with (first | ((with_reducible refine gate_callee (f := 88) rfl ?_); refine goesL_ (some 37) rfl rfl Tryz.func88 (by kernel_rfl) rfl #[.slice Ao6 t119.length co6] rfl (by ((try simp only [List.map_toArray, List.map_cons, List.map_nil]); (rfl))) ?_; (with_reducible refine (slices_Sort_string_string.calls (fun k_ => some k_ = (.slice Ao6 t119.length co6 : Value).ownBlock) (.slice Ao6 t119.length co6) t119 t124 w _ ?side1 ?side2 A17.out).mono ?_); (case side1 => repeat ((with_reducible (exact HB.out)))); (case side2 => exact Kd.R_tight rfl HO_15.out); rintro e w23 ⟨rfl, hy0, hb, hkp⟩; refine ⟨_, rfl, ?_⟩; replace HO_15 := Aside0.mk (Kd.R_reok rfl hy0 (fun k_ e_ => HO_15.out.1 k_ e_)); replace HB := Aside0.mk hb; clear hb hkp hy0) | ((with_reducible refine gate_callee (f := 89) rfl ?_); refine goesL_ (some 39) rfl rfl Tryz.func89 (by kernel_rfl) rfl #[.slice Ao6 t119.length co6] rfl (by ((try simp only [List.map_toArray, List.map_cons, List.map_nil]); (rfl))) ?_; (with_reducible refine (slices_Compact_string_string.calls (fun k_ => some k_ = (.slice Ao6 t119.length co6 : Value).ownBlock) (.slice Ao6 t119.length co6) t124 t125 w _ ?side1 ?side2 A18.out).mono ?_); (case side1 => repeat ((with_reducible (exact HB.out)))); (case side2 => exact Kd.R_tight rfl HO_15.out); rintro e w24 ⟨v126, rfl, ho0, hb, hkp⟩; refine ⟨_, rfl, ?_⟩; have n0_ := Aside0.mk (Kd.R_mono (ok' := fun k_ => True) ho0 (fun k_ hk_ => trivial)); have n1_ := Aside0.mk hb; clear HB HO_15; have HO127 := n0_; have HB := n1_; clear n0_ n1_; clear hb hkp ho0; obtain ⟨Ao25, co25, eo25⟩ := Kd.R_slice HO127.out; subst eo25))
           go_ret2
           exact ⟨_, rfl, by ((with_reducible repeat (first | apply Kd.R_alloc  | apply Kd.R_drewN  | apply Kd.R_drew)); exact HO127.out), by (with_reducible exact HB.out)⟩
def slices_Index_string_string.l0 : Nat → List ByteArray → ByteArray → Int → Int → Option (Int)
 | 0, _, _, _, _ => none
 | k + 1, x0, x1, x7, x8 => if x8 < x7 then (if 0 ≤ x8 then (if x8 < (x0.length : Int) then (if x1.toList = (rdOf ByteArray.empty x0 x8).toList then (some x8) else (slices_Index_string_string.l0 k x0 x1 x7 (wrap64 (x8 + 1)))) else (none)) else (none)) else (some (-1))
def slices_Index_string_string.f (k : Nat) (l0 : List ByteArray) (a1 : ByteArray) : Option (Int) := slices_Index_string_string.l0 k l0 a1 (l0.length : Int) 0
set_option maxHeartbeats 8000000 in
set_option maxRecDepth 100000 in
theorem slices_Index_string_string.calls (k : Nat) (A0 : Option Addr) (c0 : Nat) (l0 : List ByteArray) (a1 : ByteArray) (r : Int) (w : World) (hr0 : Kd.C Kd.string w A0 l0.length l0) (hc0 : l0.length ≤ c0) (h : slices_Index_string_string.f k l0 a1 = some r) :
 Calls Tryz.prog 138 #[.slice A0 l0.length c0, .string a1] w fun e w' => e = .returned (.int .i64 r) ∧ Drawn0 w w' := by
 have HR0 := Aside0.mk hr0
 have HC0 := Aside0.mk hc0
 clear hr0 hc0
 have H : (slices_Index_string_string.l0 k l0 a1 (l0.length : Int) 0) = some r := h
 clear h
 have H' := Aside0.mk H
 clear H
 go_enter Tryz.func138, Tryz.ntmps138
 go_wp2
 go_loopg [8] k (fun kq v8 w' => ∃ (x8_1 : Int), v8 = .int .i64 x8_1 ∧ Aside0 (slices_Index_string_string.l0 kq l0 a1 (l0.length : Int) x8_1 = some r) ∧ Aside0 (kq ≤ k) ∧ Drawn0 w w')
 case atStart => exact ⟨(0), rfl, H', ⟨Nat.le_refl _⟩, by repeat (exact Drawn0.refl _)⟩
 case round =>
  clear H'
  obtain ⟨x8_1, rfl, HA, HK1, ⟨m1, rfl⟩⟩ := hrel
  cases gk with
  | zero => exact absurd HA.out (by simp [slices_Index_string_string.l0])
  | succ k1 =>
   have H := HA.out
   clear HA
   simp only [slices_Index_string_string.l0] at H
   by_cases c3 : x8_1 < (l0.length : Int)
   · rw [if_pos c3] at H
     have c3b0 : decide (x8_1 < (l0.length : Int)) = true := decide_eq_true c3
     clear c3
     by_cases c4 : 0 ≤ x8_1
     · rw [if_pos c4] at H
       have c4b0 : decide (0 ≤ x8_1) = true := decide_eq_true c4
       clear c4
       by_cases c5 : x8_1 < (l0.length : Int)
       · rw [if_pos c5] at H
         have c5b0 : decide (x8_1 < (l0.length : Int)) = true := decide_eq_true c5
         clear c5
         by_cases c6 : a1.toList = (rdOf ByteArray.empty l0 x8_1).toList
         · rw [if_pos c6] at H
           have c6b0 : (a1.toList == (rdOf ByteArray.empty l0 x8_1).toList) = true := beq_iff_eq.mpr c6
           have c6b1 : (a1.toList != (rdOf ByteArray.empty l0 x8_1).toList) = false := bne_eq_false_iff_eq.mpr c6
           clear c6
           obtain rfl := Option.some.inj H
           have p128 : 0 ≤ (x8_1 : Int) := of_decide_eq_true (by assumption)
           have q128 : x8_1 < (l0.length : Int) := of_decide_eq_true (by assumption)
           obtain ⟨ad128, e128, hx128_0⟩ := Kd.at_string HR0.out x8_1 p128 q128
           cases e128
           replace p128 := eq_true p128
           replace q128 := eq_true q128
           go_wp2
           go_ret
           exact ⟨by (rfl), by repeat (first | exact Drawn0.refl _ | apply Drawn0.step)⟩
         · rw [if_neg c6] at H
           have c6b0 : (a1.toList == (rdOf ByteArray.empty l0 x8_1).toList) = false := beq_eq_false_iff_ne.mpr c6
           have c6b1 : (a1.toList != (rdOf ByteArray.empty l0 x8_1).toList) = true := bne_iff_ne.mpr c6
           have H' := Aside0.mk H
           clear H
           have p128 : 0 ≤ (x8_1 : Int) := of_decide_eq_true (by assumption)
           have q128 : x8_1 < (l0.length : Int) := of_decide_eq_true (by assumption)
           obtain ⟨ad128, e128, hx128_0⟩ := Kd.at_string HR0.out x8_1 p128 q128
           cases e128
           replace p128 := eq_true p128
           replace q128 := eq_true q128
           go_wp2
           go_roundg k1
           case measure => have := HK1.out; omega
           case rel => exact ⟨(wrap64 (x8_1 + 1)), rfl, H', ⟨by have := HK1.out; omega⟩, by repeat (first | exact Drawn0.refl _ | apply Drawn0.step)⟩
       · rw [if_neg c5] at H
         exact absurd H (by simp)
     · rw [if_neg c4] at H
       exact absurd H (by simp)
   · rw [if_neg c3] at H
     have c3b0 : decide (x8_1 < (l0.length : Int)) = false := decide_eq_false c3
     clear c3
     obtain rfl := Option.some.inj H
     go_wp2
     go_ret
     exact ⟨by (rfl), by repeat (first | exact Drawn0.refl _ | apply Drawn0.step)⟩
def slices_Contains_string_string.f (k : Nat) (l0 : List ByteArray) (a1 : ByteArray) : Option (Bool) := (slices_Index_string_string.f k l0 a1).bind fun t129 => (some (decide (t129 ≥ 0)))
set_option maxHeartbeats 8000000 in
set_option maxRecDepth 100000 in
theorem slices_Contains_string_string.calls (k : Nat) (A0 : Option Addr) (c0 : Nat) (l0 : List ByteArray) (a1 : ByteArray) (r : Bool) (w : World) (hr0 : Kd.C Kd.string w A0 l0.length l0) (hc0 : l0.length ≤ c0) (h : slices_Contains_string_string.f k l0 a1 = some r) :
 Calls Tryz.prog 110 #[.slice A0 l0.length c0, .string a1] w fun e w' => e = .returned (.bool r) ∧ Drawn0 w w' := by
 have HR0 := Aside0.mk hr0
 have HC0 := Aside0.mk hc0
 clear hr0 hc0
 have H : ((slices_Index_string_string.f k l0 a1).bind fun t129 => (some (decide (t129 ≥ 0)))) = some r := h
 clear h
 replace H := Option.bind_eq_some_iff.mp H
 obtain ⟨t129, A30, H⟩ := H
 replace H : (some (decide (t129 ≥ 0))) = some r := H
 have A3 := Aside0.mk A30
 clear A30
 obtain rfl := Option.some.inj H
 go_enter Tryz.func110, Tryz.ntmps110
 go_wp2_with (first | ((with_reducible refine gate_callee (f := 138) rfl ?_); refine goesL_ (some 7) rfl rfl Tryz.func138 (by kernel_rfl) rfl #[.slice A0 l0.length c0, .string a1] rfl (by ((try simp only [List.map_toArray, List.map_cons, List.map_nil]); (rfl))) ?_; (with_reducible refine (slices_Index_string_string.calls k _ _ l0 a1 t129 _ ?side1 ?side2 A3.out).mono ?_); (case side1 => repeat (exact HR0.out)); (case side2 => exact HC0.out); rintro e w' ⟨rfl, ⟨nd, rfl⟩⟩; refine ⟨_, rfl, ?_⟩))
 go_ret
 exact ⟨by (rfl), by repeat (first | exact Drawn0.refl _ | apply Drawn0.step)⟩
end Go.Proofs.YtmimipgmhgalaaaGreatDoor.PAll
end
section
namespace Go.Proofs.YtmimipgmhgalaaaGreatDoor.Spec
def bs (l : List UInt8) : ByteArray := ⟨l.toArray⟩
theorem bs_data (l : List UInt8) : (bs l).data.toList = l := rfl
theorem bs_of (s : ByteArray) : bs s.data.toList = s := by cases s; simp [bs]
theorem bs_size (l : List UInt8) : (bs l).size = l.length := by simp [bs, ByteArray.size]
theorem data_len (s : ByteArray) : s.data.toList.length = s.size := by rw [Array.length_toList]; rfl
theorem unescL_place : ∀ (n : Nat) (l : List UInt8), l.length ≤ n → ∀ (i : Nat) (acc : List UInt8), 0 ≤ (unescL l i acc).2.2 ∧ (unescL l i acc).2.2 ≤ (i + l.length : Int) ∧ 0 ≤ (unescL l i acc).2.1 ∧ (unescL l i acc).2.1 ≤ 31 ∧ (unescL l i acc).1.length ≤ acc.length + l.length
  | _, [], _, i, acc => by simp [unescL]
  | 0, c :: r, h, _, _ => by simp at h
  | n + 1, c :: r, h, i, acc => by
    simp only [List.length_cons] at h
    by_cases hb : (c.toNat : Int) < 33 ∨ 126 < (c.toNat : Int)
    · rw [unescL_bad _ _ _ _ hb]; simp only [List.length_nil]; omega
    · by_cases h1 : c = 43
      · rw [unescL_plus _ _ _ _ h1]
        have := unescL_place n r (by omega) (i + 1) (acc ++ [32])
        simp only [List.length_cons, List.length_append, List.length_nil] at this ⊢
        omega
      · by_cases h2 : c = 37
        · match r, h with
          | [], _ => rw [unescL_short _ _ _ _ h2 (by simp)]; simp; omega
          | [d], _ => rw [unescL_short _ _ _ _ h2 (by simp)]; simp; omega
          | d :: e :: r, h =>
            by_cases h3 : hexI d < 0 ∨ hexI e < 0
            · rw [unescL_nohex _ _ _ _ _ _ h2 h3]; simp only [List.length_nil, List.length_cons]; omega
            · rw [unescL_hex _ _ _ _ _ _ h2 h3]
              simp only [List.length_cons] at h
              have := unescL_place n r (by omega) (i + 3) (acc ++ [UInt8.ofNat (16 * hexI d + hexI e).toNat])
              simp only [List.length_cons, List.length_append, List.length_nil] at this ⊢
              omega
        · rw [unescL_keep _ _ _ _ hb h1 h2]
          have := unescL_place n r (by omega) (i + 1) (acc ++ [c])
          simp only [List.length_cons, List.length_append, List.length_nil] at this ⊢
          omega
def splitL (c : UInt8) : List UInt8 → List (List UInt8)
  | [] => [[]]
  | x :: r => if x = c then [] :: splitL c r else match splitL c r with
    | [] => [[x]]
    | p :: ps => (x :: p) :: ps
theorem splitL_ne (c : UInt8) : ∀ l, splitL c l ≠ []
  | [] => by simp [splitL]
  | x :: r => by
    unfold splitL
    split
    · simp
    · split <;> simp
theorem splitL_same (c : UInt8) (r : List UInt8) : splitL c (c :: r) = [] :: splitL c r := by simp [splitL]
theorem splitL_other (c x : UInt8) (r p : List UInt8) (ps : List (List UInt8)) (h : x ≠ c) (hp : splitL c r = p :: ps) : splitL c (x :: r) = (x :: p) :: ps := by simp [splitL, h, hp]
theorem splitL_append (c : UInt8) (b : List UInt8) : ∀ a, splitL c (a ++ c :: b) = splitL c a ++ splitL c b
  | [] => by simp [splitL]
  | x :: r => by
    have ih := splitL_append c b r
    by_cases h : x = c
    · subst h; rw [List.cons_append, splitL_same, splitL_same, ih, List.cons_append]
    · obtain ⟨p, ps, hp⟩ : ∃ p ps, splitL c r = p :: ps := by
        cases hr : splitL c r with
        | nil => exact absurd hr (splitL_ne c r)
        | cons p ps => exact ⟨p, ps, rfl⟩
      rw [List.cons_append, splitL_other c x _ p (ps ++ splitL c b) h (by rw [ih, hp]; rfl), splitL_other c x r p ps h hp, List.cons_append]
theorem splitL_whole (c : UInt8) : ∀ a : List UInt8, c ∉ a → splitL c a = [a]
  | [], _ => rfl
  | x :: r, h => by
    have h1 : x ≠ c := fun e => h (by simp [e])
    exact splitL_other c x r r [] h1 (splitL_whole c r (fun e => h (by simp [e])))
theorem splitL_hit (c : UInt8) (a b : List UInt8) (h : c ∉ a) : splitL c (a ++ c :: b) = a :: splitL c b := by
  rw [splitL_append, splitL_whole c a h]; rfl
def widthL (ps : List (List UInt8)) : Nat := (ps.map fun p => p.length + 1).sum
theorem widthL_cons (p : List UInt8) (ps : List (List UInt8)) : widthL (p :: ps) = p.length + 1 + widthL ps := by simp [widthL]
theorem splitL_width (c : UInt8) : ∀ l : List UInt8, widthL (splitL c l) = l.length + 1
  | [] => by simp [splitL, widthL]
  | x :: r => by
    have ih := splitL_width c r
    by_cases h : x = c
    · subst h; rw [splitL_same, widthL_cons, ih]; simp; omega
    · obtain ⟨q, ps, hq⟩ : ∃ p ps, splitL c r = p :: ps := by
        cases hr : splitL c r with
        | nil => exact absurd hr (splitL_ne c r)
        | cons p ps => exact ⟨p, ps, rfl⟩
      rw [hq, widthL_cons] at ih
      rw [splitL_other c x r q ps h hq, widthL_cons]
      simp only [List.length_cons]
      omega
theorem count_width : ∀ ps : List (List UInt8), ps.length ≤ widthL ps
  | [] => Nat.zero_le _
  | p :: ps => by have := count_width ps; rw [widthL_cons, List.length_cons]; omega
theorem widthL_mem : ∀ (ps : List (List UInt8)) (p : List UInt8), p ∈ ps → p.length + 1 ≤ widthL ps
  | q :: ps, p, h => by
    rw [widthL_cons]
    rcases List.mem_cons.1 h with rfl | h
    · omega
    · have := widthL_mem ps p h; omega
def cutL (c : UInt8) : List UInt8 → List UInt8 × List UInt8 × Bool
  | [] => ([], [], false)
  | x :: r => if x = c then ([], r, true) else (x :: (cutL c r).1, (cutL c r).2.1, (cutL c r).2.2)
theorem cutL_hit (c : UInt8) (b : List UInt8) : ∀ a : List UInt8, c ∉ a → cutL c (a ++ c :: b) = (a, b, true)
  | [], _ => by simp [cutL]
  | x :: r, h => by
    have h1 : x ≠ c := fun e => h (by simp [e])
    have := cutL_hit c b r (fun e => h (by simp [e]))
    simp [cutL, h1, this]
theorem cutL_len (c : UInt8) : ∀ l : List UInt8, (cutL c l).1.length + (cutL c l).2.1.length ≤ l.length
  | [] => by simp [cutL]
  | x :: r => by
    have := cutL_len c r
    unfold cutL
    split
    · simp
    · simp only [List.length_cons]; omega
theorem indexByte_mem (c : UInt8) : ∀ l : List UInt8, (Lib.indexByte l c = -1 ↔ c ∉ l)
  | [] => by simp [Lib.indexByte]
  | x :: r => by
    have ih := indexByte_mem c r
    have hg := Lib.indexByte_ge r c
    unfold Lib.indexByte
    by_cases h : x = c
    · subst h; simp
    · have h2 : (x == c) = false := beq_eq_false_iff_ne.2 h
      rw [h2]
      by_cases h3 : Lib.indexByte r c = -1
      · simp [h3, Ne.symm h, ih.1 h3]
      · have h4 : (Lib.indexByte r c == -1) = false := beq_eq_false_iff_ne.2 h3
        have h5 : c ∈ r := Classical.byContradiction fun e => h3 (ih.2 e)
        simp [h4, h5]
        omega
theorem cut_cutL (c : UInt8) : ∀ l : List UInt8, Lib.cut l [c] = cutL c l
  | [] => by simp [Lib.cut, cutL, Lib.index]
  | x :: r => by
    have ih := cut_cutL c r
    unfold Lib.cut at ih ⊢
    rw [Lib.index_one] at ih ⊢
    have hg := Lib.indexByte_ge r c
    unfold Lib.indexByte cutL
    by_cases h : x = c
    · subst h; simp
    · have h2 : (x == c) = false := beq_eq_false_iff_ne.2 h
      rw [h2, if_neg h]
      rw [← ih]
      by_cases h3 : Lib.indexByte r c = -1
      · simp [h3]
      · have h4 : (Lib.indexByte r c == -1) = false := beq_eq_false_iff_ne.2 h3
        obtain ⟨j, hj⟩ : ∃ j : Nat, Lib.indexByte r c = j := ⟨(Lib.indexByte r c).toNat, by omega⟩
        rw [h4, hj]
        have e1 : ((j : Int) + 1).toNat = j + 1 := by omega
        have e2 : (0 : Int) ≤ (j : Int) + 1 := by omega
        have e3 : (0 : Int) ≤ (j : Int) := by omega
        simp [e1, e2, e3]
theorem splitK_splitL (c : UInt8) : ∀ l : List UInt8, Lib.splitK [c] 0 (l.count c) l = splitL c l
  | [] => rfl
  | x :: r => by
    have ih := splitK_splitL c r
    by_cases h : x = c
    · subst h
      rw [List.count_cons_self, splitL_same, Lib.splitK, Lib.index_one, Lib.indexByte]
      simp [ih]
    · rw [List.count_cons_of_ne h]
      by_cases h0 : c ∈ r
      · obtain ⟨k, hk⟩ : ∃ k, r.count c = k + 1 := ⟨r.count c - 1, by have := List.count_pos_iff.2 h0; omega⟩
        rw [hk, Lib.splitK, Lib.index_one] at ih ⊢
        have h3 : Lib.indexByte r c ≠ -1 := fun e => (indexByte_mem c r).1 e h0
        have hg := Lib.indexByte_ge r c
        have h4 : (Lib.indexByte r c == -1) = false := beq_eq_false_iff_ne.2 h3
        obtain ⟨j, hj⟩ : ∃ j : Nat, Lib.indexByte r c = j := ⟨(Lib.indexByte r c).toNat, by omega⟩
        have h2 : (x == c) = false := beq_eq_false_iff_ne.2 h
        have e0 : Lib.indexByte (x :: r) c = (j : Int) + 1 := by unfold Lib.indexByte; rw [h2, h4, hj]; simp
        have e5 : ((j : Int) + 1 == -1) = false := beq_eq_false_iff_ne.2 (by omega)
        have e6 : ((j : Int) == -1) = false := beq_eq_false_iff_ne.2 (by omega)
        have e1 : ((j : Int) + 1).toNat = j + 1 := by omega
        rw [hj, e6] at ih
        rw [e0, e5]
        simp only [Bool.false_eq_true, if_false, e1, Int.toNat_natCast, Nat.add_zero, List.length_singleton, List.take_succ_cons, List.drop_succ_cons] at ih ⊢
        exact (splitL_other c x r _ _ h ih.symm).symm
      · rw [List.count_eq_zero_of_not_mem h0]
        rw [splitL_whole c (x :: r) (by simp [h0, Ne.symm h])]
        rfl
def pairP (at_ : Nat) (p : List UInt8) : (ByteArray × ByteArray) × Int × Int :=
  if (unescL (cutL 61 p).1 0 []).2.1 = 0 then
    (if (unescL (cutL 61 p).2.1 0 []).2.1 = 0 then ((bs (unescL (cutL 61 p).1 0 []).1, bs (unescL (cutL 61 p).2.1 0 []).1), 0, 0)
    else ((⟨#[]⟩, ⟨#[]⟩), (unescL (cutL 61 p).2.1 0 []).2.1, at_ + (cutL 61 p).1.length + 1 + (unescL (cutL 61 p).2.1 0 []).2.2))
  else ((⟨#[]⟩, ⟨#[]⟩), (unescL (cutL 61 p).1 0 []).2.1, at_ + (unescL (cutL 61 p).1 0 []).2.2)
def parseL : List (List UInt8) → Nat → List (ByteArray × ByteArray) → List (ByteArray × ByteArray) × Int × Int
  | [], _, acc => (acc, 0, 0)
  | p :: r, i, acc => if p = [] then parseL r (i + 1) acc else if acc.length = 64 then ([], 32, i) else
    if (pairP i p).2.1 = 0 then parseL r (i + p.length + 1) (acc ++ [(pairP i p).1]) else ([], (pairP i p).2.1, (pairP i p).2.2)
theorem parseL_cons (p : List UInt8) (r : List (List UInt8)) (i : Nat) (acc : List (ByteArray × ByteArray)) : parseL (p :: r) i acc = if p = [] then parseL r (i + 1) acc else if acc.length = 64 then ([], 32, (i : Int)) else
    if (pairP i p).2.1 = 0 then parseL r (i + p.length + 1) (acc ++ [(pairP i p).1]) else ([], (pairP i p).2.1, (pairP i p).2.2) := rfl
def parse (l : List UInt8) : List (ByteArray × ByteArray) × Int × Int := if l.length > 16384 then ([], 1, 0) else parseL (splitL 38 l) 0 []
end Go.Proofs.YtmimipgmhgalaaaGreatDoor.Spec
end
section
namespace Go.Proofs.YtmimipgmhgalaaaGreatDoor.Spec
def letterB (c : UInt8) : Bool := decide ((c.toNat : Int) = 33 ∨ (35 ≤ (c.toNat : Int) ∧ (c.toNat : Int) ≤ 91) ∨ (93 ≤ (c.toNat : Int) ∧ (c.toNat : Int) ≤ 126))
def Rising (l : List (List UInt8)) : Prop := l.Pairwise (· < ·)
theorem rising_nodup {l : List (List UInt8)} (h : Rising l) : l.Nodup := by
  unfold List.Nodup
  refine List.Pairwise.imp (fun {x y} hxy => ?_) h
  rintro rfl
  exact List.lt_irrefl x hxy
theorem rising_ext {a b : List (List UInt8)} (ha : Rising a) (hb : Rising b) (h : ∀ x, x ∈ a ↔ x ∈ b) : a = b := by
  have na := rising_nodup ha
  have nb := rising_nodup hb
  exact List.Perm.eq_of_pairwise (fun x y _ _ h1 h2 => absurd (List.lt_trans h1 h2) (List.lt_irrefl x)) ha hb ((List.perm_ext_iff_of_nodup na nb).2 h)
def putL : List (List UInt8) → List UInt8 → List (List UInt8)
  | [], s => [s]
  | x :: r, s => if x = s then x :: r else if s < x then s :: x :: r else x :: putL r s
theorem putL_mem (s : List UInt8) : ∀ (l : List (List UInt8)) (x : List UInt8), x ∈ putL l s ↔ x = s ∨ x ∈ l
  | [], x => by simp [putL]
  | y :: r, x => by
    unfold putL
    split
    · rename_i h; subst h; simp
    · split
      · simp
      · rw [List.mem_cons, putL_mem s r x, List.mem_cons]
        constructor
        · rintro (h | h | h)
          · exact .inr (.inl h)
          · exact .inl h
          · exact .inr (.inr h)
        · rintro (h | h | h)
          · exact .inr (.inl h)
          · exact .inl h
          · exact .inr (.inr h)
theorem putL_rising (s : List UInt8) : ∀ l, Rising l → Rising (putL l s)
  | [], _ => by simp [putL, Rising]
  | y :: r, h => by
    have h1 := List.pairwise_cons.1 h
    unfold putL
    split
    · exact h
    · rename_i hne
      split
      · rename_i hlt
        refine List.pairwise_cons.2 ⟨fun z hz => ?_, h⟩
        rcases List.mem_cons.1 hz with rfl | hz
        · exact hlt
        · exact List.lt_trans hlt (h1.1 z hz)
      · rename_i hnl
        refine List.pairwise_cons.2 ⟨fun z hz => ?_, putL_rising s r h1.2⟩
        rcases (putL_mem s r z).1 hz with rfl | hz
        · have hle := List.not_lt.1 hnl
          exact Classical.byContradiction fun hc => hne (List.le_antisymm hle (List.not_lt.1 hc))
        · exact h1.1 z hz
theorem putL_len (s : List UInt8) : ∀ l : List (List UInt8), (putL l s).length ≤ l.length + 1
  | [] => by simp [putL]
  | y :: r => by
    have := putL_len s r
    unfold putL
    split
    · simp
    · split
      · simp
      · simp only [List.length_cons]; omega
def setL (ps : List (List UInt8)) : List (List UInt8) := ps.foldl putL []
theorem fold_mem : ∀ (ps acc : List (List UInt8)) (x : List UInt8), x ∈ ps.foldl putL acc ↔ x ∈ acc ∨ x ∈ ps
  | [], acc, x => by simp
  | p :: ps, acc, x => by
    rw [List.foldl_cons, fold_mem ps, putL_mem, List.mem_cons]
    constructor
    · rintro ((h | h) | h)
      · exact .inr (.inl h)
      · exact .inl h
      · exact .inr (.inr h)
    · rintro (h | h | h)
      · exact .inl (.inr h)
      · exact .inl (.inl h)
      · exact .inr h
theorem fold_rising : ∀ (ps acc : List (List UInt8)), Rising acc → Rising (ps.foldl putL acc)
  | [], _, h => h
  | p :: ps, acc, h => fold_rising ps _ (putL_rising p acc h)
theorem setL_mem (ps : List (List UInt8)) (x : List UInt8) : x ∈ setL ps ↔ x ∈ ps := by unfold setL; rw [fold_mem]; simp
theorem setL_rising (ps : List (List UInt8)) : Rising (setL ps) := fold_rising ps [] List.Pairwise.nil
section
open Lib
theorem compact_mem (zs : List (List UInt8)) (x : List UInt8) : x ∈ compact zs ↔ x ∈ zs := by
  unfold compact compactUpTo
  simp only [List.mem_map, List.mem_filter, List.mem_range]
  constructor
  · rintro ⟨i, ⟨hi, _⟩, rfl⟩
    have : zs.toArray[i]! = zs[i] := by simp [hi]
    rw [this]
    exact List.getElem_mem hi
  · intro hx
    obtain ⟨i, hi, rfl⟩ := List.getElem_of_mem hx
    suffices H : ∀ n i (hi : i < zs.length), i ≤ n → ∃ a, (a < zs.length ∧ keeps zs.toArray a = true) ∧ zs.toArray[a]! = zs[i] from H i i hi (Nat.le_refl _)
    intro n
    induction n with
    | zero =>
      intro i hi h0
      obtain rfl : i = 0 := by omega
      exact ⟨0, ⟨hi, by simp [keeps]⟩, by simp [hi]⟩
    | succ n ih =>
      intro i hi hn
      by_cases hk : keeps zs.toArray i = true
      · exact ⟨i, ⟨hi, hk⟩, by simp [hi]⟩
      · unfold keeps at hk
        simp only [decide_eq_true_eq, not_or, Decidable.not_not] at hk
        obtain ⟨h0, he⟩ := hk
        obtain ⟨a, ha, hb⟩ := ih (i - 1) (by omega) (by omega)
        refine ⟨a, ha, hb.trans ?_⟩
        have e1 : zs.toArray[i]! = zs[i] := by simp [hi]
        have e2 : zs.toArray[i - 1]! = zs[i - 1] := by simp [show i - 1 < zs.length by omega]
        rw [← e2, ← e1]; exact he.symm
theorem compact_rising (zs : List (List UInt8)) (h : zs.Pairwise (· ≤ ·)) : Rising (compact zs) := by
  unfold compact compactUpTo Rising
  rw [List.pairwise_map, List.pairwise_filter]
  refine List.Pairwise.imp_of_mem ?_ (List.pairwise_lt_range (n := zs.length))
  intro a b ha hb hab _ hkb
  have ha' : a < zs.length := List.mem_range.1 ha
  have hb' : b < zs.length := List.mem_range.1 hb
  have e1 : zs.toArray[a]! = zs[a] := by simp [ha']
  have e2 : zs.toArray[b]! = zs[b] := by simp [hb']
  have e3 : zs.toArray[b - 1]! = zs[b - 1] := by simp [show b - 1 < zs.length by omega]
  rw [e1, e2]
  unfold keeps at hkb
  simp only [decide_eq_true_eq] at hkb
  rw [e2, e3] at hkb
  have hne := hkb.resolve_left (by omega)
  have hle : zs[a] ≤ zs[b - 1] := by
    by_cases hc : a = b - 1
    · subst hc; exact List.le_refl _
    · exact List.pairwise_iff_getElem.1 h a (b - 1) _ _ (by omega)
  have hle2 : zs[b - 1] ≤ zs[b] := List.pairwise_iff_getElem.1 h (b - 1) b _ _ (by omega)
  refine Classical.byContradiction fun hc => hne ?_
  exact (List.le_antisymm hle2 (List.le_trans (List.not_lt.1 hc) hle)).symm
theorem compact_sort (zs : List (List UInt8)) : compact (zs.mergeSort fun x y => decide (x ≤ y)) = setL zs := by
  have hs : (zs.mergeSort fun x y => decide (x ≤ y)).Pairwise (· ≤ ·) := by
    have := List.pairwise_mergeSort (le := fun x y : List UInt8 => decide (x ≤ y)) (fun a b c h1 h2 => by simp only [decide_eq_true_eq] at *; exact List.le_trans h1 h2) (fun a b => by simp only [Bool.or_eq_true, decide_eq_true_eq]; exact List.le_total a b) zs
    exact this.imp fun {x y} h => by simpa using h
  refine rising_ext (compact_rising _ hs) (setL_rising zs) fun x => ?_
  rw [compact_mem, setL_mem]
  exact (List.mergeSort_perm zs _).mem_iff
end
def badP (p : List UInt8) : Bool := p.isEmpty || p.any fun c => !letterB c
def scopesL (l : List UInt8) : List (List UInt8) × Int :=
  if 256 < l.length then ([], 1) else if l = [] then ([], 0) else if (splitL 32 l).any badP = true then ([], 33) else
    if 32 < (setL (splitL 32 l)).length then ([], 32) else (setL (splitL 32 l), 0)
theorem letter_space : letterB 32 = false := by decide
end Go.Proofs.YtmimipgmhgalaaaGreatDoor.Spec
end
section
namespace Go.Proofs.YtmimipgmhgalaaaGreatDoor.Plain
open Go.RowKit Go.Proofs.YtmimipgmhgalaaaGreatDoorW.PrintWords
theorem toList_inj {a b : ByteArray} (h : a.toList = b.toList) : a = b := by
  rw [ByteArray.toList_eq, ByteArray.toList_eq] at h
  cases a; cases b
  simpa using h
theorem w64 {x : Int} (h0 : -9223372036854775808 ≤ x) (h1 : x ≤ 9223372036854775807) : wrap64 x = x := by
  unfold wrap64; omega
theorem rdOf_get {α : Type} (d : α) (xs : List α) (i : Nat) (h : i < xs.length) : rdOf d xs (i : Int) = xs[i] := by
  simp [rdOf, h]
theorem drop_cons {α : Type} (xs : List α) (i : Nat) (h : i < xs.length) : xs.drop i = xs[i] :: xs.drop (i + 1) := by
  rw [List.drop_eq_getElem_cons h]
theorem Ev.eq {α : Type} {g : Nat → Option α} {r s : α} (h : Ev g r) (e : r = s) : Ev g s := e ▸ h
theorem Ev.pos {α : Type} {c : Prop} [Decidable c] {f g : Nat → Option α} {r : α} (h : c) (k : Ev f r) : Ev (fun n => if c then f n else g n) r :=
  Ev.congr (fun _ => if_pos h) k
theorem Ev.neg {α : Type} {c : Prop} [Decidable c] {f g : Nat → Option α} {r : α} (h : ¬ c) (k : Ev g r) : Ev (fun n => if c then f n else g n) r :=
  Ev.congr (fun _ => if_neg h) k
end Go.Proofs.YtmimipgmhgalaaaGreatDoor.Plain
end
section
namespace Go.Proofs.YtmimipgmhgalaaaGreatDoor.Pure
open Go.RowKit Go.Proofs.YtmimipgmhgalaaaGreatDoorW.PrintWords Go.Proofs.YtmimipgmhgalaaaGreatDoor.Plain Go.Proofs.YtmimipgmhgalaaaGreatDoor.Spec Go.Proofs.YtmimipgmhgalaaaGreatDoor.PAll
set_option linter.unusedSimpArgs false
set_option linter.unusedVariables false
theorem toList_data (s : ByteArray) : s.toList = s.data.toList := ByteArray.toList_eq s
theorem bs_toList (l : List UInt8) : (bs l).toList = l := by rw [toList_data, bs_data]
theorem map_bs_of : ∀ l : List ByteArray, (l.map (·.data.toList)).map bs = l
  | [] => rfl
  | s :: l => by rw [List.map_cons, List.map_cons, bs_of, map_bs_of l]
theorem map_of_bs : ∀ l : List (List UInt8), (l.map bs).map (·.data.toList) = l
  | [] => rfl
  | s :: l => by rw [List.map_cons, List.map_cons, map_of_bs l]; rfl
theorem split_eq (s : ByteArray) (c : UInt8) (h : s.size < 4294967281) : strings_Split.f s ⟨#[c]⟩ = some ((splitL c s.data.toList).map bs) := by
  unfold strings_Split.f
  rw [if_pos ⟨rfl, h⟩]
  congr 1
  rw [← map_bs_of (Lib.splitB _ _ _ _), Lib.splitB_data, ← splitK_splitL]
  congr 2
  show Lib.count s.data.toList [c] = _
  rw [Lib.count_one]
theorem cut_eq (s : ByteArray) (c : UInt8) (h : s.size < 4294967281) : strings_Cut.f s ⟨#[c]⟩ = some (bs (cutL c s.data.toList).1, bs (cutL c s.data.toList).2.1, (cutL c s.data.toList).2.2) := by
  unfold strings_Cut.f
  rw [if_pos ⟨rfl, h⟩, show (⟨#[c]⟩ : ByteArray).data.toList = [c] from rfl, cut_cutL]
  rfl
theorem unesc_eq (s : ByteArray) (h : s.size ≤ 140737488355328) : urlform_Unescape.f s = some (bs (unescL s.data.toList 0 []).1, (unescL s.data.toList 0 []).2.1, (unescL s.data.toList 0 []).2.2) := by
  unfold urlform_Unescape.f
  rw [if_pos h]
  rfl
def mk34 (p : ByteArray × ByteArray) : S68 := ⟨p.1, p.2⟩
def res34 (r : List (ByteArray × ByteArray) × Int × Int) : List S68 × Int × Int := (r.1.map mk34, r.2.1, r.2.2)
theorem rd_bs (qs : List (List UInt8)) (i : Nat) (h : i < qs.length) : rdOf ByteArray.empty (qs.map bs) (i : Int) = bs qs[i] := by
  rw [rdOf_get _ _ _ (by rw [List.length_map]; exact h), List.getElem_map]
theorem place_of (l : List UInt8) : 0 ≤ (unescL l 0 []).2.2 ∧ (unescL l 0 []).2.2 ≤ (l.length : Int) := by
  have := unescL_place l.length l (Nat.le_refl _) 0 []
  omega
theorem parse_loop (qs : List (List UInt8)) (hq : qs.length ≤ 16385) : ∀ (m i at_ : Nat) (acc : List (ByteArray × ByteArray)), i + m = qs.length → at_ + widthL (qs.drop i) ≤ 16385 → acc.length ≤ 64 →
    Ev (fun k => urlform_Parse.l0 k (acc.map mk34) (at_ : Int) (qs.map bs) (qs.length : Int) (i : Int)) (res34 (parseL (qs.drop i) at_ acc)) := by
  intro m
  induction m with
  | zero =>
    intro i at_ acc hi _ _
    refine Ev.step (f := fun _ => some (acc.map mk34, 0, 0)) (fun k => ?_) (Ev.eq (Ev.now _) ?_)
    · simp only [urlform_Parse.l0]; rw [if_neg (by omega)]
    · rw [List.drop_eq_nil_of_le (by omega)]; rfl
  | succ m ih =>
    intro i at_ acc hi hw ha
    have hlt : i < qs.length := by omega
    have hrd := rd_bs qs i hlt
    have hlen : (qs.map bs).length = qs.length := List.length_map ..
    have hal : (acc.map mk34).length = acc.length := List.length_map ..
    rw [drop_cons qs i hlt, widthL_cons] at hw
    rw [drop_cons qs i hlt, parseL_cons]
    have ih1 := ih (i + 1)
    generalize qs[i] = p at *
    have hc := cutL_len 61 p
    have hp1 := place_of (cutL 61 p).1
    have hp2 := place_of (cutL 61 p).2.1
    by_cases h1 : p = []
    · rw [if_pos h1]
      have h1l : p.length = 0 := by rw [h1]; rfl
      have h1t : (bs p).toList = [] := by rw [bs_toList]; exact h1
      refine Ev.step (fun k => ?_) (ih1 (at_ + 1) acc (by omega) (by omega) ha)
      simp only [urlform_Parse.l0]
      simp (disch := omega) only [↓if_pos, ↓if_neg, hrd, h1t, w64, bs_size, h1l, if_true]
      rfl
    · rw [if_neg h1]
      have h1t : ¬ (bs p).toList = [] := by rw [bs_toList]; exact h1
      by_cases h2 : acc.length = 64
      · rw [if_pos h2]
        refine Ev.step (f := fun _ => some ([], 32, (at_ : Int))) (fun k => ?_) (Ev.eq (Ev.now _) rfl)
        simp only [urlform_Parse.l0]
        simp (disch := omega) only [↓if_pos, ↓if_neg, hrd, h1t, w64, bs_size, hal, h2, if_true, if_false]
      · rw [if_neg h2]
        have hct := cut_eq (bs p) 61 (by rw [bs_size]; omega)
        rw [bs_data] at hct
        have hu1 := unesc_eq (bs (cutL 61 p).1) (by rw [bs_size]; omega)
        have hu2 := unesc_eq (bs (cutL 61 p).2.1) (by rw [bs_size]; omega)
        rw [bs_data] at hu1 hu2
        unfold pairP
        by_cases h3 : (unescL (cutL 61 p).1 0 []).2.1 = 0
        · rw [if_pos h3]
          by_cases h4 : (unescL (cutL 61 p).2.1 0 []).2.1 = 0
          · rw [if_pos h4, if_pos rfl]
            refine Ev.step (fun k => ?_) (ih1 (at_ + p.length + 1) (acc ++ [(bs (unescL (cutL 61 p).1 0 []).1, bs (unescL (cutL 61 p).2.1 0 []).1)]) (by omega) (by omega) (by rw [List.length_append, List.length_singleton]; omega))
            simp only [urlform_Parse.l0]
            simp (disch := omega) only [↓if_pos, ↓if_neg, hrd, h1t, w64, bs_size, hct, hu1, hu2, Option.bind_some, h3, h4, if_true, if_false, List.map_append, List.map_cons, List.map_nil]
            rfl
          · rw [if_neg h4, if_neg h4]
            refine Ev.step (f := fun _ => some ([], (unescL (cutL 61 p).2.1 0 []).2.1, (at_ : Int) + (cutL 61 p).1.length + 1 + (unescL (cutL 61 p).2.1 0 []).2.2)) (fun k => ?_) (Ev.eq (Ev.now _) rfl)
            simp only [urlform_Parse.l0]
            simp (disch := omega) only [↓if_pos, ↓if_neg, hrd, h1t, w64, bs_size, hct, hu1, hu2, Option.bind_some, h3, h4, if_true, if_false]
        · rw [if_neg h3, if_neg h3]
          refine Ev.step (f := fun _ => some ([], (unescL (cutL 61 p).1 0 []).2.1, (at_ : Int) + (unescL (cutL 61 p).1 0 []).2.2)) (fun k => ?_) (Ev.eq (Ev.now _) rfl)
          simp only [urlform_Parse.l0]
          simp (disch := omega) only [↓if_pos, ↓if_neg, hrd, h1t, w64, bs_size, hct, hu1, hu2, Option.bind_some, h3, if_true, if_false]
theorem parse_ev (s : ByteArray) (hs : s.size ≤ 140737488355328) : Ev (fun k => urlform_Parse.f k s) (res34 (parse s.data.toList)) := by
  unfold urlform_Parse.f parse
  rw [data_len]
  by_cases h : s.size > 16384
  · rw [if_pos h]
    exact Ev.pos (by omega) (Ev.now _)
  · rw [if_neg h]
    refine Ev.neg (by omega) ?_
    rw [split_eq s 38 (by omega)]
    simp only [Option.bind_some, List.length_map]
    have hw := splitL_width 38 s.data.toList
    rw [data_len] at hw
    have hc := count_width (splitL 38 s.data.toList)
    exact parse_loop _ (by omega) (splitL 38 s.data.toList).length 0 0 [] (by omega) (by rw [List.drop_zero]; omega) (by simp)
theorem bt_bs (p : List UInt8) (j : Nat) (h : j < p.length) : bt (bs p) (j : Int) = (p[j].toNat : Int) := by
  unfold bt
  rw [dif_pos (by rw [bs_size]; simpa using h)]
  rfl
theorem odd_eq (c : UInt8) : urlform_Scopes_1.f (c.toNat : Int) = some (!letterB c) := by
  unfold urlform_Scopes_1.f letterB
  by_cases h1 : (c.toNat : Int) < 33
  · rw [if_pos h1, decide_eq_false (by omega)]; rfl
  · rw [if_neg h1]
    by_cases h2 : (c.toNat : Int) > 126
    · rw [if_pos h2, decide_eq_false (by omega)]; rfl
    · rw [if_neg h2]
      by_cases h3 : (c.toNat : Int) = 34
      · rw [if_pos h3, decide_eq_false (by omega)]; rfl
      · rw [if_neg h3]
        by_cases h4 : (c.toNat : Int) = 92
        · rw [decide_eq_false (by omega), h4]; rfl
        · rw [decide_eq_true (by omega), beq_eq_false_iff_ne.2 h4]; rfl
def resS (r : List (List UInt8) × Int) : List ByteArray × Int := (r.1.map bs, r.2)
theorem scopes_inner (qs : List (List UInt8)) (i : Nat) (p : List UInt8) (hp : p.length ≤ 16385) (hi : i < 16385) (r : List ByteArray × Int) : ∀ (m j : Nat), j + m = p.length →
    ((p.drop j).any (fun c => !letterB c) = true → r = ([], 33)) → ((p.drop j).any (fun c => !letterB c) = false → Ev (fun k => urlform_Scopes.l0 k (qs.map bs) (qs.length : Int) ((i + 1 : Nat) : Int)) r) →
    Ev (fun k => urlform_Scopes.l1 k (bs p) (qs.map bs) (qs.length : Int) (i : Int) (p.length : Int) (j : Int)) r := by
  intro m
  induction m with
  | zero =>
    intro j hj _ hr
    refine Ev.step (fun k => ?_) (hr (by rw [List.drop_eq_nil_of_le (by omega)]; rfl))
    simp only [urlform_Scopes.l1]
    simp (disch := omega) only [↓if_pos, ↓if_neg, w64]
    rfl
  | succ m ih =>
    intro j hj hb hr
    have hlt : j < p.length := by omega
    have hbt := bt_bs p j hlt
    rw [drop_cons p j hlt, List.any_cons] at hb hr
    have ho := odd_eq p[j]
    rw [← hbt] at ho
    cases hc : letterB p[j] with
    | false =>
      rw [hc] at hb ho
      rw [hb rfl]
      refine Ev.step (f := fun _ => some ([], 33)) (fun k => ?_) (Ev.now _)
      simp only [urlform_Scopes.l1]
      simp (disch := omega) only [↓if_pos, ↓if_neg, w64, bs_size, ho, Option.bind_some, Bool.not_false, if_true]
    | true =>
      rw [hc] at hb hr ho
      refine Ev.step (fun k => ?_) (ih (j + 1) (by omega) (by simpa using hb) (by simpa using hr))
      simp only [urlform_Scopes.l1]
      simp (disch := omega) only [↓if_pos, ↓if_neg, w64, bs_size, ho, Option.bind_some, Bool.not_true, if_false, Bool.false_eq_true]
      rfl
theorem sorted_set (qs : List (List UInt8)) : compactS (sortS (qs.map bs)) = (setL qs).map bs := by
  unfold compactS sortS
  have h1 : (qs.map bs).map ofS = qs := map_of_bs qs
  have h2 : ∀ l : List (List UInt8), (l.map toS).map ofS = l := map_of_bs
  rw [h1, h2, compact_sort]
  rfl
theorem scopes_loop (qs : List (List UInt8)) (hq : widthL qs ≤ 16385) (h0 : qs ≠ []) : ∀ (m i : Nat), i + m = qs.length →
    Ev (fun k => urlform_Scopes.l0 k (qs.map bs) (qs.length : Int) (i : Int)) (resS (if (qs.drop i).any badP = true then ([], 33) else if 32 < (setL qs).length then ([], 32) else (setL qs, 0))) := by
  have hcw := count_width qs
  intro m
  induction m with
  | zero =>
    intro i hi
    have hs1 : slices_Sort_string_string.f (qs.map bs) = some (sortS (qs.map bs)) := by
      unfold slices_Sort_string_string.f
      rw [if_pos ⟨by simpa using h0, by rw [List.length_map]; omega⟩]
    have hs2 : slices_Compact_string_string.f (sortS (qs.map bs)) = some ((setL qs).map bs) := by
      unfold slices_Compact_string_string.f
      rw [if_pos, sorted_set]
      intro e
      have := congrArg List.length e
      simp [sortS, List.length_mergeSort] at this
      exact h0 this
    have hln : ((setL qs).map bs).length = (setL qs).length := List.length_map ..
    rw [List.drop_eq_nil_of_le (by omega), List.any_nil, if_neg (by simp)]
    by_cases h : 32 < (setL qs).length
    · rw [if_pos h]
      refine Ev.step (f := fun _ => some ([], 32)) (fun k => ?_) (Ev.eq (Ev.now _) rfl)
      simp only [urlform_Scopes.l0]
      simp (disch := omega) only [↓if_pos, ↓if_neg, hs1, hs2, Option.bind_some, hln]
    · rw [if_neg h]
      refine Ev.step (f := fun _ => some ((setL qs).map bs, 0)) (fun k => ?_) (Ev.eq (Ev.now _) rfl)
      simp only [urlform_Scopes.l0]
      simp (disch := omega) only [↓if_pos, ↓if_neg, hs1, hs2, Option.bind_some, hln]
  | succ m ih =>
    intro i hi
    have hlt : i < qs.length := by omega
    have hrd := rd_bs qs i hlt
    have hlen : (qs.map bs).length = qs.length := List.length_map ..
    have hpw := widthL_mem qs qs[i] (List.getElem_mem hlt)
    rw [drop_cons qs i hlt, List.any_cons]
    have ih1 := ih (i + 1) (by omega)
    generalize qs[i] = p at *
    by_cases h1 : p = []
    · have h1t : (bs p).toList = [] := by rw [bs_toList]; exact h1
      have hb : badP p = true := by rw [h1]; rfl
      rw [hb, Bool.true_or, if_pos rfl]
      refine Ev.step (f := fun _ => some ([], 33)) (fun k => ?_) (Ev.eq (Ev.now _) rfl)
      simp only [urlform_Scopes.l0]
      simp (disch := omega) only [↓if_pos, ↓if_neg, hrd, h1t, if_true]
    · have h1t : ¬ (bs p).toList = [] := by rw [bs_toList]; exact h1
      have he : p.isEmpty = false := by cases p <;> simp_all
      refine Ev.step (f := fun k => urlform_Scopes.l1 k (bs p) (qs.map bs) (qs.length : Int) (i : Int) (p.length : Int) ((0 : Nat) : Int)) (fun k => ?_) ?_
      · simp only [urlform_Scopes.l0]
        simp (disch := omega) only [↓if_pos, ↓if_neg, hrd, h1t, if_false, bs_size]
        rfl
      · refine scopes_inner qs i p (by omega) (by omega) _ p.length 0 (by omega) (fun hb => ?_) (fun hb => ?_)
        · rw [List.drop_zero] at hb
          rw [show badP p = true by unfold badP; rw [he, hb]; rfl, Bool.true_or, if_pos rfl]; rfl
        · rw [List.drop_zero] at hb
          rw [show badP p = false by unfold badP; rw [he, hb]; rfl, Bool.false_or]
          exact ih1
theorem scopes_ev (s : ByteArray) : Ev (fun k => urlform_Scopes.f k s) (resS (scopesL s.data.toList)) := by
  unfold urlform_Scopes.f scopesL
  rw [data_len]
  by_cases h : 256 < s.size
  · rw [if_pos h]
    exact Ev.pos (by omega) (Ev.now _)
  · rw [if_neg h]
    refine Ev.neg (by omega) ?_
    by_cases h1 : s.data.toList = []
    · rw [if_pos h1]
      exact Ev.pos (by rw [toList_data]; exact h1) (Ev.now _)
    · rw [if_neg h1]
      refine Ev.neg (by rw [toList_data]; exact h1) ?_
      rw [split_eq s 32 (by omega)]
      simp only [Option.bind_some, List.length_map]
      have hw := splitL_width 32 s.data.toList
      rw [data_len] at hw
      exact scopes_loop _ (by omega) (splitL_ne _ _) (splitL 32 s.data.toList).length 0 (by omega)
end Go.Proofs.YtmimipgmhgalaaaGreatDoor.Pure
end
section
namespace Go.Proofs.YtmimipgmhgalaaaGreatDoor.PAll
open Go.RowKit Go.Proofs.YtmimipgmhgalaaaGreatDoorW.PrintWords Go.Proofs.YtmimipgmhgalaaaGreatDoorW.PrintLast Go.Proofs.YtmimipgmhgalaaaGreatDoorW.PrintMore
attribute [local go_sem] max2_int min2_int max_two min_two max_three min_three max_four min_four
set_option linter.unusedVariables false
set_option linter.unusedSimpArgs false
def urlform_Within.l0 : Nat → List ByteArray → List ByteArray → Int → Int → Option (Bool)
 | 0, _, _, _, _ => none
 | k + 1, x1, x7, x8, x9 => if x9 < x8 then (if 0 ≤ x9 then (if x9 < (x7.length : Int) then ((slices_Contains_string_string.f k x1 (rdOf ByteArray.empty x7 x9)).bind fun t131 => (if t131 = true then (urlform_Within.l0 k x1 x7 x8 (wrap64 (x9 + 1))) else (some false))) else (none)) else (none)) else (some true)
def urlform_Within.f (k : Nat) (l0 : List ByteArray) (l1 : List ByteArray) : Option (Bool) := urlform_Within.l0 k l1 l0 (l0.length : Int) 0
set_option maxHeartbeats 8000000 in
set_option maxRecDepth 100000 in
theorem urlform_Within.calls (k : Nat) (A0 : Option Addr) (c0 : Nat) (l0 : List ByteArray) (A1 : Option Addr) (c1 : Nat) (l1 : List ByteArray) (r : Bool) (w : World) (hr0 : Kd.C Kd.string w A0 l0.length l0) (hc0 : l0.length ≤ c0) (hr1 : Kd.C Kd.string w A1 l1.length l1) (hc1 : l1.length ≤ c1) (h : urlform_Within.f k l0 l1 = some r) :
 Calls Tryz.prog 72 #[.slice A0 l0.length c0, .slice A1 l1.length c1] w fun e w' => e = .returned (.bool r) ∧ Drawn0 w w' := by
 have HR0 := Aside0.mk hr0
 have HC0 := Aside0.mk hc0
 clear hr0 hc0
 have HR1 := Aside0.mk hr1
 have HC1 := Aside0.mk hc1
 clear hr1 hc1
 have H : (urlform_Within.l0 k l1 l0 (l0.length : Int) 0) = some r := h
 clear h
 have H' := Aside0.mk H
 clear H
 go_enter Tryz.func72, Tryz.ntmps72
 go_wp2
 go_loopg [9] k (fun kq v9 w' => ∃ (x9_1 : Int), v9 = .int .i64 x9_1 ∧ Aside0 (urlform_Within.l0 kq l1 l0 (l0.length : Int) x9_1 = some r) ∧ Aside0 (kq ≤ k) ∧ Drawn0 w w')
 case atStart => exact ⟨(0), rfl, H', ⟨Nat.le_refl _⟩, by repeat (exact Drawn0.refl _)⟩
 case round =>
  clear H'
  obtain ⟨x9_1, rfl, HA, HK1, ⟨m1, rfl⟩⟩ := hrel
  cases gk with
  | zero => exact absurd HA.out (by simp [urlform_Within.l0])
  | succ k1 =>
   have H := HA.out
   clear HA
   simp only [urlform_Within.l0] at H
   by_cases c3 : x9_1 < (l0.length : Int)
   · rw [if_pos c3] at H
     have c3b0 : decide (x9_1 < (l0.length : Int)) = true := decide_eq_true c3
     clear c3
     by_cases c4 : 0 ≤ x9_1
     · rw [if_pos c4] at H
       have c4b0 : decide (0 ≤ x9_1) = true := decide_eq_true c4
       clear c4
       by_cases c5 : x9_1 < (l0.length : Int)
       · rw [if_pos c5] at H
         have c5b0 : decide (x9_1 < (l0.length : Int)) = true := decide_eq_true c5
         clear c5
         replace H := Option.bind_eq_some_iff.mp H
         obtain ⟨t131, A60, H⟩ := H
         replace H : (if t131 = true then (urlform_Within.l0 k1 l1 l0 (l0.length : Int) (wrap64 (x9_1 + 1))) else (some false)) = some r := H
         have A6 := Aside0.mk A60
         clear A60
         by_cases c7 : t131 = true
         · subst c7
           have H1 : (urlform_Within.l0 k1 l1 l0 (l0.length : Int) (wrap64 (x9_1 + 1))) = some r := by rw [if_pos rfl] at H; exact H
           clear H
           have H := H1
           clear H1
           have H' := Aside0.mk H
           clear H
           have p130 : 0 ≤ (x9_1 : Int) := of_decide_eq_true (by assumption)
           have q130 : x9_1 < (l0.length : Int) := of_decide_eq_true (by assumption)
           obtain ⟨ad130, e130, hx130_0⟩ := Kd.at_string HR0.out x9_1 p130 q130
           cases e130
           replace p130 := eq_true p130
           replace q130 := eq_true q130
           go_wp2_with (first | ((with_reducible refine gate_callee (f := 110) rfl ?_); refine goesL_ (some 15) rfl rfl Tryz.func110 (by kernel_rfl) rfl #[.slice A1 l1.length c1, .string (rdOf ByteArray.empty l0 x9_1)] rfl (by ((try simp only [List.map_toArray, List.map_cons, List.map_nil]); (rfl))) ?_; (with_reducible refine (slices_Contains_string_string.calls k1 _ _ l1 (rdOf ByteArray.empty l0 x9_1) true _ ?side1 ?side2 A6.out).mono ?_); (case side1 => repeat (exact HR1.out)); (case side2 => exact HC1.out); rintro e w' ⟨rfl, ⟨nd, rfl⟩⟩; refine ⟨_, rfl, ?_⟩))
           go_roundg k1
           case measure => have := HK1.out; omega
           case rel => exact ⟨(wrap64 (x9_1 + 1)), rfl, H', ⟨by have := HK1.out; omega⟩, by repeat (first | exact Drawn0.refl _ | apply Drawn0.step)⟩
         · replace c7 := Bool.eq_false_iff.mpr c7
           subst c7
           have H1 : (some false) = some r := by rw [if_neg (show ¬ (false = true) by decide)] at H; exact H
           clear H
           have H := H1
           clear H1
           obtain rfl := Option.some.inj H
           have p130 : 0 ≤ (x9_1 : Int) := of_decide_eq_true (by assumption)
           have q130 : x9_1 < (l0.length : Int) := of_decide_eq_true (by assumption)
           obtain ⟨ad130, e130, hx130_0⟩ := Kd.at_string HR0.out x9_1 p130 q130
           cases e130
           replace p130 := eq_true p130
           replace q130 := eq_true q130
           go_wp2_with (first | ((with_reducible refine gate_callee (f := 110) rfl ?_); refine goesL_ (some 15) rfl rfl Tryz.func110 (by kernel_rfl) rfl #[.slice A1 l1.length c1, .string (rdOf ByteArray.empty l0 x9_1)] rfl (by ((try simp only [List.map_toArray, List.map_cons, List.map_nil]); (rfl))) ?_; (with_reducible refine (slices_Contains_string_string.calls k1 _ _ l1 (rdOf ByteArray.empty l0 x9_1) false _ ?side1 ?side2 A6.out).mono ?_); (case side1 => repeat (exact HR1.out)); (case side2 => exact HC1.out); rintro e w' ⟨rfl, ⟨nd, rfl⟩⟩; refine ⟨_, rfl, ?_⟩))
           go_ret
           exact ⟨by (rfl), by repeat (first | exact Drawn0.refl _ | apply Drawn0.step)⟩
       · rw [if_neg c5] at H
         exact absurd H (by simp)
     · rw [if_neg c4] at H
       exact absurd H (by simp)
   · rw [if_neg c3] at H
     have c3b0 : decide (x9_1 < (l0.length : Int)) = false := decide_eq_false c3
     clear c3
     obtain rfl := Option.some.inj H
     go_wp2
     go_ret
     exact ⟨by (rfl), by repeat (first | exact Drawn0.refl _ | apply Drawn0.step)⟩
def client_within.l0 : Nat → ByteArray → Int → Int → Int → Int → Int → Option (Bool)
 | 0, _, _, _, _, _, _ => none
 | k + 1, x0, x1, x2, x3, x11, x12 => if x12 < x11 then (if 0 ≤ x12 then (if x12 < (x0.size : Int) then (if (bt x0 x12) < x3 then (some false) else (if (bt x0 x12) > 126 then (some false) else (client_within.l0 k x0 x1 x2 x3 x11 (wrap64 (x12 + 1))))) else (none)) else (none)) else (if (x0.size : Int) ≥ x1 then (some (decide ((x0.size : Int) ≤ x2))) else (some false))
def client_within.f (k : Nat) (a0 : ByteArray) (a1 : Int) (a2 : Int) (a3 : Int) : Option (Bool) := client_within.l0 k a0 a1 a2 a3 (a0.size : Int) 0
set_option maxHeartbeats 8000000 in
set_option maxRecDepth 100000 in
theorem client_within.calls (k : Nat) (a0 : ByteArray) (a1 : Int) (a2 : Int) (a3 : Int) (r : Bool) (w : World) (h : client_within.f k a0 a1 a2 a3 = some r) :
 Calls Tryz.prog 52 #[.string a0, .int .i64 a1, .int .i64 a2, .int .u8 a3] w fun e w' => e = .returned (.bool r) ∧ Drawn0 w w' := by
 have H : (client_within.l0 k a0 a1 a2 a3 (a0.size : Int) 0) = some r := h
 clear h
 have H' := Aside0.mk H
 clear H
 go_enter Tryz.func52, Tryz.ntmps52
 go_wp2
 go_loopg [12] k (fun kq v12 w' => ∃ (x12_1 : Int), v12 = .int .i64 x12_1 ∧ Aside0 (client_within.l0 kq a0 a1 a2 a3 (a0.size : Int) x12_1 = some r) ∧ Aside0 (kq ≤ k) ∧ Drawn0 w w')
 case atStart => exact ⟨(0), rfl, H', ⟨Nat.le_refl _⟩, by repeat (exact Drawn0.refl _)⟩
 case round =>
  clear H'
  obtain ⟨x12_1, rfl, HA, HK1, ⟨m1, rfl⟩⟩ := hrel
  cases gk with
  | zero => exact absurd HA.out (by simp [client_within.l0])
  | succ k1 =>
   have H := HA.out
   clear HA
   simp only [client_within.l0] at H
   by_cases c5 : x12_1 < (a0.size : Int)
   · rw [if_pos c5] at H
     have c5b0 : decide (x12_1 < (a0.size : Int)) = true := decide_eq_true c5
     clear c5
     by_cases c6 : 0 ≤ x12_1
     · rw [if_pos c6] at H
       have c6b0 : decide (0 ≤ x12_1) = true := decide_eq_true c6
       clear c6
       by_cases c7 : x12_1 < (a0.size : Int)
       · rw [if_pos c7] at H
         have c7b0 : decide (x12_1 < (a0.size : Int)) = true := decide_eq_true c7
         clear c7
         by_cases c9 : (bt a0 x12_1) < a3
         · rw [if_pos c9] at H
           have c9b0 : decide ((bt a0 x12_1) < a3) = true := decide_eq_true c9
           clear c9
           obtain rfl := Option.some.inj H
           have p8 : 0 ≤ (x12_1 : Int) := of_decide_eq_true (by assumption)
           have q8 : x12_1 < (a0.size : Int) := of_decide_eq_true (by assumption)
           have hx8 := bt_at a0 x12_1
           replace p8 := eq_true p8
           replace q8 := eq_true q8
           go_wp2
           go_ret
           exact ⟨by (rfl), by repeat (first | exact Drawn0.refl _ | apply Drawn0.step)⟩
         · rw [if_neg c9] at H
           have c9b0 : decide ((bt a0 x12_1) < a3) = false := decide_eq_false c9
           clear c9
           by_cases c11 : (bt a0 x12_1) > 126
           · rw [if_pos c11] at H
             have c11b0 : decide (126 < (bt a0 x12_1)) = true := decide_eq_true c11
             clear c11
             obtain rfl := Option.some.inj H
             have p8 : 0 ≤ (x12_1 : Int) := of_decide_eq_true (by assumption)
             have q8 : x12_1 < (a0.size : Int) := of_decide_eq_true (by assumption)
             have hx8 := bt_at a0 x12_1
             replace p8 := eq_true p8
             replace q8 := eq_true q8
             have p10 : 0 ≤ (x12_1 : Int) := of_decide_eq_true (by assumption)
             have q10 : x12_1 < (a0.size : Int) := of_decide_eq_true (by assumption)
             have hx10 := bt_at a0 x12_1
             replace p10 := eq_true p10
             replace q10 := eq_true q10
             go_wp2
             go_ret
             exact ⟨by (rfl), by repeat (first | exact Drawn0.refl _ | apply Drawn0.step)⟩
           · rw [if_neg c11] at H
             have c11b0 : decide (126 < (bt a0 x12_1)) = false := decide_eq_false c11
             clear c11
             have H' := Aside0.mk H
             clear H
             have p8 : 0 ≤ (x12_1 : Int) := of_decide_eq_true (by assumption)
             have q8 : x12_1 < (a0.size : Int) := of_decide_eq_true (by assumption)
             have hx8 := bt_at a0 x12_1
             replace p8 := eq_true p8
             replace q8 := eq_true q8
             have p10 : 0 ≤ (x12_1 : Int) := of_decide_eq_true (by assumption)
             have q10 : x12_1 < (a0.size : Int) := of_decide_eq_true (by assumption)
             have hx10 := bt_at a0 x12_1
             replace p10 := eq_true p10
             replace q10 := eq_true q10
             go_wp2
             go_roundg k1
             case measure => have := HK1.out; omega
             case rel => exact ⟨(wrap64 (x12_1 + 1)), rfl, H', ⟨by have := HK1.out; omega⟩, by repeat (first | exact Drawn0.refl _ | apply Drawn0.step)⟩
       · rw [if_neg c7] at H
         exact absurd H (by simp)
     · rw [if_neg c6] at H
       exact absurd H (by simp)
   · rw [if_neg c5] at H
     have c5b0 : decide (x12_1 < (a0.size : Int)) = false := decide_eq_false c5
     clear c5
     by_cases c12 : (a0.size : Int) ≥ a1
     · rw [if_pos c12] at H
       have c12b0 : decide (a1 ≤ (a0.size : Int)) = true := decide_eq_true c12
       clear c12
       obtain rfl := Option.some.inj H
       go_wp2
       go_ret
       exact ⟨by (rfl), by repeat (first | exact Drawn0.refl _ | apply Drawn0.step)⟩
     · rw [if_neg c12] at H
       have c12b0 : decide (a1 ≤ (a0.size : Int)) = false := decide_eq_false c12
       clear c12
       obtain rfl := Option.some.inj H
       go_wp2
       go_ret
       exact ⟨by (rfl), by repeat (first | exact Drawn0.refl _ | apply Drawn0.step)⟩
end Go.Proofs.YtmimipgmhgalaaaGreatDoor.PAll
end
section
namespace Go.Proofs.YtmimipgmhgalaaaGreatDoor.PAll
open Go.RowKit Go.Proofs.YtmimipgmhgalaaaGreatDoorW.PrintWords
set_option linter.unusedVariables false
def asciiS (s : ByteArray) : Bool := s.data.toList.all fun b => decide (b.toNat < 128)
theorem asciiS_at {s : ByteArray} (h : asciiS s = true) : ∀ (j : Nat) (b : UInt8), s.data.toList[j]? = some b → b.toNat < 128 := by
  intro j b hb
  unfold asciiS at h
  rw [List.all_eq_true] at h
  have hm : b ∈ s.data.toList := List.mem_of_getElem? hb
  simpa using h b hm
def strings_HasPrefix.f (a0 a1 : ByteArray) : Option Bool := some (Lib.hasPrefix a0.data.toList a1.data.toList)
theorem strings_HasPrefix.calls (a0 a1 : ByteArray) (r1 : Bool) (w : World) (h : strings_HasPrefix.f a0 a1 = some r1) :
    Calls Tryz.prog 53 #[.string a0, .string a1] w fun e w' => e = .returned (.bool r1) ∧ Below w.heap.size w w' := by
  obtain rfl := Option.some.inj h
  exact (Tryz.strings_HasPrefix a0 a1 w).mono fun e w' ⟨he, hw⟩ => ⟨he, hw ▸ Below.refl _ _⟩
def strings_TrimSuffix.f (a0 a1 : ByteArray) : Option ByteArray := if a0.size ≤ 9223372036854775807 then some ⟨(Lib.trimSuffix a0.data.toList a1.data.toList).toArray⟩ else none
theorem strings_TrimSuffix.calls (a0 a1 : ByteArray) (r1 : ByteArray) (w : World) (h : strings_TrimSuffix.f a0 a1 = some r1) :
    Calls Tryz.prog 97 #[.string a0, .string a1] w fun e w' => e = .returned (.string r1) ∧ Below w.heap.size w w' := by
  unfold strings_TrimSuffix.f at h
  split at h
  · rename_i hs
    obtain rfl := Option.some.inj h
    exact (Tryz.strings_TrimSuffix a0 a1 w hs).mono fun e w' ⟨he, hw⟩ => ⟨he, hw ▸ Below.refl _ _⟩
  · cases h
def strings_TrimLeft.f (a0 a1 : ByteArray) : Option ByteArray := if a1.size = 1 ∧ asciiS a1 = true then some ⟨(Lib.trimLeftB a0.data.toList (a1.data.toList.headD 0)).toArray⟩ else none
theorem strings_TrimLeft.calls (a0 a1 : ByteArray) (r1 : ByteArray) (w : World) (h : strings_TrimLeft.f a0 a1 = some r1) :
    Calls Tryz.prog 64 #[.string a0, .string a1] w fun e w' => e = .returned (.string r1) ∧ Below w.heap.size w w' := by
  unfold strings_TrimLeft.f at h
  split at h
  · rename_i hs
    obtain ⟨c, rfl⟩ := Lib.one_byte a1 hs.1
    obtain rfl := Option.some.inj h
    exact (Tryz.strings_TrimLeft_one a0 c (asciiS_at hs.2 0 c rfl) w).mono fun e w' ⟨he, hw⟩ => ⟨he, hw ▸ Below.refl _ _⟩
  · cases h
def strings_EqualFold.f (a0 a1 : ByteArray) : Option Bool := if a0.size < 4294967281 ∧ asciiS a0 = true ∧ asciiS a1 = true then some (Lib.equalFold a0.data.toList a1.data.toList) else none
theorem strings_EqualFold.calls (a0 a1 : ByteArray) (r1 : Bool) (w : World) (h : strings_EqualFold.f a0 a1 = some r1) :
    Calls Tryz.prog 62 #[.string a0, .string a1] w fun e w' => e = .returned (.bool r1) ∧ Below w.heap.size w w' := by
  unfold strings_EqualFold.f at h
  split at h
  · rename_i hs
    obtain rfl := Option.some.inj h
    exact (Tryz.strings_EqualFold a0 a1 w hs.1 (asciiS_at hs.2.1) (asciiS_at hs.2.2)).mono fun e w' ⟨he, hw⟩ => ⟨he, hw ▸ Below.refl _ _⟩
  · cases h
theorem C_cells {w : World} {A : Option Addr} {n : Nat} {l : List ByteArray} (h : Kd.C Kd.string w A n l) (h0 : l ≠ []) : ∃ ad : Addr, A = some ad ∧ ∀ (j : Nat) x, l[j]? = some x → w.cell? (ad.add j) = some (.string x) := by
  have hl := h.1
  have hr := Kd.reads_of_C (enc := Value.string) (d := ByteArray.empty) (h1 := fun _ => rfl) h
  have hpos := List.length_pos_iff.2 h0
  obtain ⟨ad, e, hc⟩ := hr.2.2 (by omega)
  refine ⟨ad, e, fun j x hx => ?_⟩
  have hj := (List.getElem?_eq_some_iff.1 hx).1
  rw [hc j (by omega)]
  congr 2
  rw [List.getD_eq_getElem?_getD, hx]
  rfl
theorem whole {w : World} {a : Addr} {v : Value} (h : w.cell? a = some v) : a.spot = none := by
  unfold World.cell? at h
  split at h
  · split at h
    · cases h
    · rename_i hs
      simpa using hs
  · cases h
theorem C_addr {w : World} {A : Option Addr} {n : Nat} {l : List ByteArray} (h : Kd.C Kd.string w A n l) (h0 : l ≠ []) : ∃ b o : Nat, A = some ⟨b, o, none⟩ ∧ b < w.heap.size ∧ ∀ (j : Nat) x, l[j]? = some x → w.cell? ⟨b, o + j, none⟩ = some (.string x) := by
  obtain ⟨ad, e, hc⟩ := C_cells h h0
  have hpos := List.length_pos_iff.2 h0
  have h1 := hc 0 l[0] (List.getElem?_eq_getElem hpos)
  have hs := whole h1
  obtain ⟨b, o, sp⟩ := ad
  have hs' : sp = none := hs
  subst hs'
  exact ⟨b, o, e, World.block_lt_of_cell? w _ h1, fun j x hx => by
    have hj := hc j x hx
    unfold Addr.add at hj
    by_cases h0 : j = 0
    · subst h0; exact hj
    · rw [if_neg h0] at hj; exact hj⟩
def strings_Join.f (l0 : List ByteArray) (a1 : ByteArray) : Option ByteArray :=
  if l0.length ≤ 140737488355328 ∧ (Lib.join (l0.map (·.data.toList)) a1.data.toList).length ≤ 140737488355328 then some ⟨(Lib.join (l0.map (·.data.toList)) a1.data.toList).toArray⟩ else none
theorem strings_Join.calls (A0 : Option Addr) (c0 : Nat) (l0 : List ByteArray) (a1 : ByteArray) (r1 : ByteArray) (w : World) (hr0 : Kd.C Kd.string w A0 l0.length l0) (hc0 : l0.length ≤ c0) (h : strings_Join.f l0 a1 = some r1) :
    Calls Tryz.prog 55 #[.slice A0 l0.length c0, .string a1] w fun e w' => e = .returned (.string r1) ∧ Below w.heap.size w w' := by
  unfold strings_Join.f at h
  split at h
  · rename_i hs
    obtain rfl := Option.some.inj h
    by_cases h0 : l0 = []
    · subst h0
      exact (Tryz.strings_Join_none A0 c0 a1 w).mono fun e w' ⟨he, hw⟩ => ⟨he, hw ▸ Below.refl _ _⟩
    · obtain ⟨b, o, rfl, hb, hc⟩ := C_addr hr0 h0
      exact Tryz.strings_Join b o c0 l0 a1 w hc hb hs.1 hc0 hs.2
  · cases h
def slices_Equal_string_string.f (l0 l1 : List ByteArray) : Option Bool := some (decide (l0 = l1))
theorem slices_Equal_string_string.calls (A0 : Option Addr) (c0 : Nat) (l0 : List ByteArray) (A1 : Option Addr) (c1 : Nat) (l1 : List ByteArray) (r1 : Bool) (w : World) (hr0 : Kd.C Kd.string w A0 l0.length l0) (hc0 : l0.length ≤ c0) (hr1 : Kd.C Kd.string w A1 l1.length l1) (hc1 : l1.length ≤ c1)
    (h : slices_Equal_string_string.f l0 l1 = some r1) :
    Calls Tryz.prog 56 #[.slice A0 l0.length c0, .slice A1 l1.length c1] w fun e w' => e = .returned (.bool r1) ∧ Below w.heap.size w w' := by
  obtain rfl := Option.some.inj h
  by_cases hl : l0.length = l1.length
  · by_cases h0 : l0 = []
    · subst h0
      have h1 : l1 = [] := List.eq_nil_of_length_eq_zero hl.symm
      subst h1
      exact (Tryz.slices_Equal_string_empty A0 A1 c0 0 c1 w (by omega)).mono fun e w' ⟨he, hw⟩ => ⟨he, hw ▸ Below.refl _ _⟩
    · have h1 : l1 ≠ [] := by rintro rfl; simp at hl; exact h0 hl
      obtain ⟨b0, o0, rfl, _, hcc0⟩ := C_addr hr0 h0
      obtain ⟨b1, o1, rfl, _, hcc1⟩ := C_addr hr1 h1
      have hn0 := hr0.2.1
      have hn1 := hr1.2.1
      refine (Tryz.slices_Equal_string b0 o0 l0.length c0 b1 o1 l1.length c1 l0 l1 w (Nat.le_refl _) (Nat.le_refl _) hn0 hn1 (fun j hj => ?_) (fun j hj => ?_)).mono fun e w' ⟨he, q, hw⟩ => ⟨?_, ?_⟩
      · rw [hcc0 j l0[j] (List.getElem?_eq_getElem hj), List.getD_eq_getElem?_getD, List.getElem?_eq_getElem hj]; rfl
      · rw [hcc1 j l1[j] (List.getElem?_eq_getElem hj), List.getD_eq_getElem?_getD, List.getElem?_eq_getElem hj]; rfl
      · rw [he, List.take_length, List.take_length]
      · rw [hw]; exact pw_below_drewN (Below.refl _ _) q
  · have hne : ¬ l0 = l1 := fun e => hl (by rw [e])
    rw [decide_eq_false hne]
    exact (Tryz.slices_Equal_string_lens A0 A1 l0.length c0 l1.length c1 w hl).mono fun e w' ⟨he, hw⟩ => ⟨he, hw ▸ Below.refl _ _⟩
theorem R_of_own {w : World} {base : Nat} {v : Value} {l : List ByteArray} (h : w.ownsRow base 9 1 v l.length (l.map Value.string)) : Kd.R Kd.string 9 w base (fun _ => True) v l :=
  ⟨fun _ _ => trivial, l.map Value.string, h, reps_strings l⟩
def slices_Clone_string_string.f (l0 : List ByteArray) : Option (List ByteArray) := if l0.length * 16 ≤ 140737488355328 then some l0 else none
theorem slices_Clone_string_string.calls (A0 : Option Addr) (c0 : Nat) (l0 : List ByteArray) (r : List ByteArray) (w : World) (hr0 : Kd.C Kd.string w A0 l0.length l0) (hc0 : l0.length ≤ c0) (h : slices_Clone_string_string.f l0 = some r) :
    Calls Tryz.prog 93 #[.slice A0 l0.length c0] w fun e w' => ∃ v0_ : Value, e = .returned v0_ ∧ Kd.R Kd.string 9 w' w.heap.size (fun _ => True) v0_ r ∧ Below w.heap.size w w' := by
  unfold slices_Clone_string_string.f at h
  split at h
  · rename_i hs
    obtain rfl := Option.some.inj h
    by_cases h0 : l0 = []
    · subst h0
      cases A0 with
      | none => exact (Tryz.slices_Clone_string_nil 0 c0 w).mono fun e w' ⟨he, hw⟩ => ⟨_, he, hw ▸ Kd.R_nil _ _ _ _ _, hw ▸ Below.refl _ _⟩
      | some a => exact (Tryz.slices_Clone_string_zero a c0 w).mono fun e w' ⟨v, he, ho, _, hb⟩ => ⟨v, he, R_of_own ho, hb⟩
    · obtain ⟨b, o, rfl, _, hcc⟩ := C_addr hr0 h0
      refine (Tryz.slices_Clone_string b o l0.length c0 l0 w (Nat.le_refl _) hs (fun j hj => ?_)).mono fun e w' ⟨v, he, ho, _, hb⟩ => ⟨v, he, R_of_own ?_, hb⟩
      · rw [hcc j l0[j] (List.getElem?_eq_getElem hj), List.getD_eq_getElem?_getD, List.getElem?_eq_getElem hj]; rfl
      · rw [List.take_length] at ho; exact ho
  · cases h
end Go.Proofs.YtmimipgmhgalaaaGreatDoor.PAll
end
section
namespace Go.Proofs.YtmimipgmhgalaaaGreatDoor.PAll
open Go.RowKit Go.Proofs.YtmimipgmhgalaaaGreatDoorW.PrintWords Go.Proofs.YtmimipgmhgalaaaGreatDoorW.PrintLast Go.Proofs.YtmimipgmhgalaaaGreatDoorW.PrintMore
attribute [local go_sem] max2_int min2_int max_two min_two max_three min_three max_four min_four
set_option linter.unusedVariables false
set_option linter.unusedSimpArgs false
mutual
def client_Check.j0 : Nat → Bool → ByteArray → ByteArray → Int → Bool → ByteArray → List ByteArray → Option (Int)
 | 0, _, _, _, _, _, _, _ => none
 | k + 1, x24, x133000, x133001, x133002, x133003, x133004, x133005 => if x24 = true then (some 111) else (if x133003 = true then (if (Go.bits .and .i64 x133002 2) = 0 then (client_Check.j1 k true x133000 x133001 x133002 x133003 x133004 x133005) else (if x133001.toList = ([] : List UInt8) then (client_Check.j1 k true x133000 x133001 x133002 x133003 x133004 x133005) else ((client_within.f k x133004 9 256 33).bind fun t135 => (if t135 = true then ((strings_HasPrefix.f x133004 (⟨#[104, 116, 116, 112, 115, 58, 47, 47]⟩ : ByteArray)).bind fun t136 => (client_Check.j1 k (!t136) x133000 x133001 x133002 x133003 x133004 x133005)) else (client_Check.j1 k true x133000 x133001 x133002 x133003 x133004 x133005))))) else (client_Check.j1 k false x133000 x133001 x133002 x133003 x133004 x133005))
def client_Check.j1 : Nat → Bool → ByteArray → ByteArray → Int → Bool → ByteArray → List ByteArray → Option (Int)
 | 0, _, _, _, _, _, _, _ => none
 | k + 1, x49, x133000, x133001, x133002, x133003, x133004, x133005 => if x49 = true then (some 111) else (if x133003 = true then (client_Check.j2 k false x133000 x133001 x133002 x133003 x133004 x133005) else (client_Check.j2 k (x133004.toList != ([] : List UInt8)) x133000 x133001 x133002 x133003 x133004 x133005))
def client_Check.j2 : Nat → Bool → ByteArray → ByteArray → Int → Bool → ByteArray → List ByteArray → Option (Int)
 | 0, _, _, _, _, _, _, _ => none
 | k + 1, x57, x133000, x133001, x133002, x133003, x133004, x133005 => if x57 = true then (some 111) else ((strings_Join.f x133005 (⟨#[32]⟩ : ByteArray)).bind fun t137 => ((urlform_Scopes.f k t137).bind fun bt138 => (if bt138.2 = 0 then ((slices_Equal_string_string.f bt138.1 x133005).bind fun t142 => (if t142 = true then (some 0) else (some 111))) else (some 111))))
end
def client_Check.f (k : Nat) (a0_0 : ByteArray) (a0_1 : ByteArray) (a0_2 : Int) (a0_3 : Bool) (a0_4 : ByteArray) (l0_5 : List ByteArray) : Option (Int) := (client_within.f k a0_0 1 64 33).bind fun t133 => (if t133 = true then ((client_within.f k a0_1 0 256 32).bind fun t134 => (if t134 = true then (if a0_2 < 1 then (client_Check.j0 k true a0_0 a0_1 a0_2 a0_3 a0_4 l0_5) else (client_Check.j0 k (decide (a0_2 > 3)) a0_0 a0_1 a0_2 a0_3 a0_4 l0_5)) else (client_Check.j0 k true a0_0 a0_1 a0_2 a0_3 a0_4 l0_5))) else (client_Check.j0 k true a0_0 a0_1 a0_2 a0_3 a0_4 l0_5))
set_option maxHeartbeats 8000000 in
set_option maxRecDepth 100000 in
theorem client_Check.calls (k : Nat) (a0_0 : ByteArray) (a0_1 : ByteArray) (a0_2 : Int) (a0_3 : Bool) (a0_4 : ByteArray) (A0_5 : Option Addr) (c0_5 : Nat) (l0_5 : List ByteArray) (r : Int) (w : World) (hr0_5 : Kd.C Kd.string w A0_5 l0_5.length l0_5) (hc0_5 : l0_5.length ≤ c0_5) (h : client_Check.f k a0_0 a0_1 a0_2 a0_3 a0_4 l0_5 = some r) :
 Calls Tryz.prog 23 #[.agg #[.string a0_0, .string a0_1, .int .i64 a0_2, .bool a0_3, .string a0_4, .slice A0_5 l0_5.length c0_5]] w fun e w' => e = .returned (.int .i64 r) ∧ Below w.heap.size w w' := by
 have hu40 := Tryz.underlying40
 have HR0_5 := Aside0.mk hr0_5
 have HC0_5 := Aside0.mk hc0_5
 clear hr0_5 hc0_5
 have HB := Aside0.mk (Below.refl w.heap.size w)
 have H : ((client_within.f k a0_0 1 64 33).bind fun t133 => (if t133 = true then ((client_within.f k a0_1 0 256 32).bind fun t134 => (if t134 = true then (if a0_2 < 1 then (client_Check.j0 k true a0_0 a0_1 a0_2 a0_3 a0_4 l0_5) else (client_Check.j0 k (decide (a0_2 > 3)) a0_0 a0_1 a0_2 a0_3 a0_4 l0_5)) else (client_Check.j0 k true a0_0 a0_1 a0_2 a0_3 a0_4 l0_5))) else (client_Check.j0 k true a0_0 a0_1 a0_2 a0_3 a0_4 l0_5))) = some r := h
 clear h
 have HC2 := Aside0.mk H
 clear H
 go_enter Tryz.func23, Tryz.ntmps23
 go_upto_region 1 with (first | ((with_reducible refine gate_dst (N := 1) rfl ?_); refine box_event (by rfl) (N := 1) (by rfl) (cs := #[.string a0_0, .string a0_1, .int .i64 a0_2, .bool a0_3, .string a0_4, .slice A0_5 l0_5.length c0_5]) (t := 40) (by go_simp) ?_; intro gb132 hg w3 hbox hb; have BK132 := Aside0.mk hbox; have GW132 := Aside0.mk ((by rw [hg]; exact (below_size HB.out) : w.heap.size ≤ gb132)); have GE132 := Aside0.mk ((by rw [hg]; exact (below_size HB.out) : w.heap.size ≤ gb132)); replace HB := Aside0.mk (below_step HB.out hb); clear hb hbox hg))
 go_cut [24] (fun v24 wc => ∃ (kq : Nat) (x24_1 : Bool), v24 = .bool x24_1 ∧ Aside0 (client_Check.j0 kq x24_1 a0_0 a0_1 a0_2 a0_3 a0_4 l0_5 = some r) ∧ Aside0 (kq ≤ k) ∧ Aside0 (wc.heap[gb132]? = some (.cells #[.string a0_0, .string a0_1, .int .i64 a0_2, .bool a0_3, .string a0_4, (.slice A0_5 l0_5.length c0_5)] 40 (0, 0))) ∧ Aside0 (Below w.heap.size w wc))
 case first =>
  have H := HC2.out
  clear HC2
  replace H := Option.bind_eq_some_iff.mp H
  obtain ⟨t133, A40, H⟩ := H
  replace H : (if t133 = true then ((client_within.f k a0_1 0 256 32).bind fun t134 => (if t134 = true then (if a0_2 < 1 then (client_Check.j0 k true a0_0 a0_1 a0_2 a0_3 a0_4 l0_5) else (client_Check.j0 k (decide (a0_2 > 3)) a0_0 a0_1 a0_2 a0_3 a0_4 l0_5)) else (client_Check.j0 k true a0_0 a0_1 a0_2 a0_3 a0_4 l0_5))) else (client_Check.j0 k true a0_0 a0_1 a0_2 a0_3 a0_4 l0_5)) = some r := H
  have A4 := Aside0.mk A40
  clear A40
  by_cases c5 : t133 = true
  · subst c5
    have H1 : ((client_within.f k a0_1 0 256 32).bind fun t134 => (if t134 = true then (if a0_2 < 1 then (client_Check.j0 k true a0_0 a0_1 a0_2 a0_3 a0_4 l0_5) else (client_Check.j0 k (decide (a0_2 > 3)) a0_0 a0_1 a0_2 a0_3 a0_4 l0_5)) else (client_Check.j0 k true a0_0 a0_1 a0_2 a0_3 a0_4 l0_5))) = some r := by rw [if_pos rfl] at H; exact H
    clear H
    have H := H1
    clear H1
    replace H := Option.bind_eq_some_iff.mp H
    obtain ⟨t134, A60, H⟩ := H
    replace H : (if t134 = true then (if a0_2 < 1 then (client_Check.j0 k true a0_0 a0_1 a0_2 a0_3 a0_4 l0_5) else (client_Check.j0 k (decide (a0_2 > 3)) a0_0 a0_1 a0_2 a0_3 a0_4 l0_5)) else (client_Check.j0 k true a0_0 a0_1 a0_2 a0_3 a0_4 l0_5)) = some r := H
    have A6 := Aside0.mk A60
    clear A60
    by_cases c7 : t134 = true
    · subst c7
      have H1 : (if a0_2 < 1 then (client_Check.j0 k true a0_0 a0_1 a0_2 a0_3 a0_4 l0_5) else (client_Check.j0 k (decide (a0_2 > 3)) a0_0 a0_1 a0_2 a0_3 a0_4 l0_5)) = some r := by rw [if_pos rfl] at H; exact H
      clear H
      have H := H1
      clear H1
      by_cases c8 : a0_2 < 1
      · rw [if_pos c8] at H
        have c8b0 : decide (a0_2 < 1) = true := decide_eq_true c8
        clear c8
        have H' := Aside0.mk H
        clear H
        obtain ⟨hcz9_0, hcz9_1, hcz9_2, hcz9_3, hcz9_4, hcz9_5, hfz9_0, hfz9_1, hfz9_2, hfz9_3, hfz9_4, hfz9_5⟩ := cz6_ BK132.out
        go_wp2_with (first | ((with_reducible refine gate_callee (f := 52) rfl ?_); refine goesL_ (some 7) rfl rfl Tryz.func52 (by kernel_rfl) rfl #[.string a0_0, .int .i64 1, .int .i64 64, .int .u8 33] rfl (by ((try simp only [List.map_toArray, List.map_cons, List.map_nil]); (rfl))) ?_; (with_reducible refine (client_within.calls k a0_0 1 64 33 true _ A4.out).mono ?_); rintro e w' ⟨rfl, ⟨nd, rfl⟩⟩; refine ⟨_, rfl, ?_⟩) | (go_at_call 52; (with_reducible refine (client_within.calls k a0_1 0 256 32 true _ A6.out).mono ?_); rintro e w' ⟨rfl, ⟨nd, rfl⟩⟩))
        go_meet
        case rel => exact ⟨_, (true), rfl, H', ⟨by (omega)⟩, ⟨by ((with_reducible repeat (refine blk_drewN ?_ _)); exact BK132.out)⟩, ⟨by (repeat (with_reducible first | exact HB.out | apply pw_below_drewN))⟩⟩
      · rw [if_neg c8] at H
        have c8b0 : decide (a0_2 < 1) = false := decide_eq_false c8
        clear c8
        have H' := Aside0.mk H
        clear H
        obtain ⟨hcz10_0, hcz10_1, hcz10_2, hcz10_3, hcz10_4, hcz10_5, hfz10_0, hfz10_1, hfz10_2, hfz10_3, hfz10_4, hfz10_5⟩ := cz6_ BK132.out
        go_wp2_with (first | ((with_reducible refine gate_callee (f := 52) rfl ?_); refine goesL_ (some 7) rfl rfl Tryz.func52 (by kernel_rfl) rfl #[.string a0_0, .int .i64 1, .int .i64 64, .int .u8 33] rfl (by ((try simp only [List.map_toArray, List.map_cons, List.map_nil]); (rfl))) ?_; (with_reducible refine (client_within.calls k a0_0 1 64 33 true _ A4.out).mono ?_); rintro e w' ⟨rfl, ⟨nd, rfl⟩⟩; refine ⟨_, rfl, ?_⟩) | (go_at_call 52; (with_reducible refine (client_within.calls k a0_1 0 256 32 true _ A6.out).mono ?_); rintro e w' ⟨rfl, ⟨nd, rfl⟩⟩))
        go_meet
        case rel => exact ⟨_, (decide (a0_2 > 3)), rfl, H', ⟨by (omega)⟩, ⟨by ((with_reducible repeat (refine blk_drewN ?_ _)); exact BK132.out)⟩, ⟨by (repeat (with_reducible first | exact HB.out | apply pw_below_drewN))⟩⟩
    · replace c7 := Bool.eq_false_iff.mpr c7
      subst c7
      have H1 : (client_Check.j0 k true a0_0 a0_1 a0_2 a0_3 a0_4 l0_5) = some r := by rw [if_neg (show ¬ (false = true) by decide)] at H; exact H
      clear H
      have H := H1
      clear H1
      have H' := Aside0.mk H
      clear H
      obtain ⟨hcz11_0, hcz11_1, hcz11_2, hcz11_3, hcz11_4, hcz11_5, hfz11_0, hfz11_1, hfz11_2, hfz11_3, hfz11_4, hfz11_5⟩ := cz6_ BK132.out
      go_wp2_with (first | ((with_reducible refine gate_callee (f := 52) rfl ?_); refine goesL_ (some 7) rfl rfl Tryz.func52 (by kernel_rfl) rfl #[.string a0_0, .int .i64 1, .int .i64 64, .int .u8 33] rfl (by ((try simp only [List.map_toArray, List.map_cons, List.map_nil]); (rfl))) ?_; (with_reducible refine (client_within.calls k a0_0 1 64 33 true _ A4.out).mono ?_); rintro e w' ⟨rfl, ⟨nd, rfl⟩⟩; refine ⟨_, rfl, ?_⟩) | (go_at_call 52; (with_reducible refine (client_within.calls k a0_1 0 256 32 false _ A6.out).mono ?_); rintro e w' ⟨rfl, ⟨nd, rfl⟩⟩))
      go_meet
      case rel => exact ⟨_, (true), rfl, H', ⟨by (omega)⟩, ⟨by ((with_reducible repeat (refine blk_drewN ?_ _)); exact BK132.out)⟩, ⟨by (repeat (with_reducible first | exact HB.out | apply pw_below_drewN))⟩⟩
  · replace c5 := Bool.eq_false_iff.mpr c5
    subst c5
    have H1 : (client_Check.j0 k true a0_0 a0_1 a0_2 a0_3 a0_4 l0_5) = some r := by rw [if_neg (show ¬ (false = true) by decide)] at H; exact H
    clear H
    have H := H1
    clear H1
    have H' := Aside0.mk H
    clear H
    obtain ⟨hcz12_0, hcz12_1, hcz12_2, hcz12_3, hcz12_4, hcz12_5, hfz12_0, hfz12_1, hfz12_2, hfz12_3, hfz12_4, hfz12_5⟩ := cz6_ BK132.out
    go_wp2_with (first | ((with_reducible refine gate_callee (f := 52) rfl ?_); refine goesL_ (some 7) rfl rfl Tryz.func52 (by kernel_rfl) rfl #[.string a0_0, .int .i64 1, .int .i64 64, .int .u8 33] rfl (by ((try simp only [List.map_toArray, List.map_cons, List.map_nil]); (rfl))) ?_; (with_reducible refine (client_within.calls k a0_0 1 64 33 false _ A4.out).mono ?_); rintro e w' ⟨rfl, ⟨nd, rfl⟩⟩; refine ⟨_, rfl, ?_⟩))
    go_meet
    case rel => exact ⟨_, (true), rfl, H', ⟨by (omega)⟩, ⟨by ((with_reducible repeat (refine blk_drewN ?_ _)); exact BK132.out)⟩, ⟨by (repeat (with_reducible first | exact HB.out | apply pw_below_drewN))⟩⟩
 case rest =>
  clear HC2
  obtain ⟨kq, x24_1, rfl, HA, HJ1, BK132, HB⟩ := hcut
  cases kq with
  | zero => exact absurd HA.out (by simp [client_Check.j0])
  | succ kj1 =>
   have H := HA.out
   clear HA
   simp only [client_Check.j0] at H
   by_cases c13 : x24_1 = true
   · subst c13
     have H1 : (some 111) = some r := by rw [if_pos rfl] at H; exact H
     clear H
     have H := H1
     clear H1
     obtain rfl := Option.some.inj H
     go_wp2
     go_ret
     exact ⟨by (rfl), by (with_reducible exact HB.out)⟩
   · replace c13 := Bool.eq_false_iff.mpr c13
     subst c13
     have H1 : (if a0_3 = true then (if (Go.bits .and .i64 a0_2 2) = 0 then (client_Check.j1 kj1 true a0_0 a0_1 a0_2 a0_3 a0_4 l0_5) else (if a0_1.toList = ([] : List UInt8) then (client_Check.j1 kj1 true a0_0 a0_1 a0_2 a0_3 a0_4 l0_5) else ((client_within.f kj1 a0_4 9 256 33).bind fun t135 => (if t135 = true then ((strings_HasPrefix.f a0_4 (⟨#[104, 116, 116, 112, 115, 58, 47, 47]⟩ : ByteArray)).bind fun t136 => (client_Check.j1 kj1 (!t136) a0_0 a0_1 a0_2 a0_3 a0_4 l0_5)) else (client_Check.j1 kj1 true a0_0 a0_1 a0_2 a0_3 a0_4 l0_5))))) else (client_Check.j1 kj1 false a0_0 a0_1 a0_2 a0_3 a0_4 l0_5)) = some r := by rw [if_neg (show ¬ (false = true) by decide)] at H; exact H
     clear H
     have H := H1
     clear H1
     have HC14 := Aside0.mk H
     clear H
     go_upto_region 3 with (fail)
     go_cut [49] (fun v49 wc => ∃ (kq : Nat) (x49_13 : Bool), v49 = .bool x49_13 ∧ Aside0 (client_Check.j1 kq x49_13 a0_0 a0_1 a0_2 a0_3 a0_4 l0_5 = some r) ∧ Aside0 (kq ≤ kj1) ∧ Aside0 (wc.heap[gb132]? = some (.cells #[.string a0_0, .string a0_1, .int .i64 a0_2, .bool a0_3, .string a0_4, (.slice A0_5 l0_5.length c0_5)] 40 (0, 0))) ∧ Aside0 (Below w.heap.size w wc))
     case first =>
      have H := HC14.out
      clear HC14
      by_cases c15 : a0_3 = true
      · subst c15
        have H1 : (if (Go.bits .and .i64 a0_2 2) = 0 then (client_Check.j1 kj1 true a0_0 a0_1 a0_2 true a0_4 l0_5) else (if a0_1.toList = ([] : List UInt8) then (client_Check.j1 kj1 true a0_0 a0_1 a0_2 true a0_4 l0_5) else ((client_within.f kj1 a0_4 9 256 33).bind fun t135 => (if t135 = true then ((strings_HasPrefix.f a0_4 (⟨#[104, 116, 116, 112, 115, 58, 47, 47]⟩ : ByteArray)).bind fun t136 => (client_Check.j1 kj1 (!t136) a0_0 a0_1 a0_2 true a0_4 l0_5)) else (client_Check.j1 kj1 true a0_0 a0_1 a0_2 true a0_4 l0_5))))) = some r := by rw [if_pos rfl] at H; exact H
        clear H
        have H := H1
        clear H1
        by_cases c16 : (Go.bits .and .i64 a0_2 2) = 0
        · rw [if_pos c16] at H
          have c16b0 : ((Go.bits .and .i64 a0_2 2) == 0) = true := beq_iff_eq.mpr c16
          have c16b1 : ((Go.bits .and .i64 a0_2 2) != 0) = false := bne_eq_false_iff_eq.mpr c16
          clear c16
          have H' := Aside0.mk H
          clear H
          obtain ⟨hcz17_0, hcz17_1, hcz17_2, hcz17_3, hcz17_4, hcz17_5, hfz17_0, hfz17_1, hfz17_2, hfz17_3, hfz17_4, hfz17_5⟩ := cz6_ BK132.out
          go_wp2
          go_meet
          case rel => exact ⟨_, (true), rfl, H', ⟨by have := HJ1.out; (omega)⟩, ⟨BK132.out⟩, ⟨HB.out⟩⟩
        · rw [if_neg c16] at H
          have c16b0 : ((Go.bits .and .i64 a0_2 2) == 0) = false := beq_eq_false_iff_ne.mpr c16
          have c16b1 : ((Go.bits .and .i64 a0_2 2) != 0) = true := bne_iff_ne.mpr c16
          by_cases c18 : a0_1.toList = ([] : List UInt8)
          · rw [if_pos c18] at H
            have c18b0 : (a0_1.toList == ([] : List UInt8)) = true := beq_iff_eq.mpr c18
            have c18b1 : (a0_1.toList != ([] : List UInt8)) = false := bne_eq_false_iff_eq.mpr c18
            clear c18
            have H' := Aside0.mk H
            clear H
            obtain ⟨hcz19_0, hcz19_1, hcz19_2, hcz19_3, hcz19_4, hcz19_5, hfz19_0, hfz19_1, hfz19_2, hfz19_3, hfz19_4, hfz19_5⟩ := cz6_ BK132.out
            go_wp2
            go_meet
            case rel => exact ⟨_, (true), rfl, H', ⟨by have := HJ1.out; (omega)⟩, ⟨BK132.out⟩, ⟨HB.out⟩⟩
          · rw [if_neg c18] at H
            have c18b0 : (a0_1.toList == ([] : List UInt8)) = false := beq_eq_false_iff_ne.mpr c18
            have c18b1 : (a0_1.toList != ([] : List UInt8)) = true := bne_iff_ne.mpr c18
            replace H := Option.bind_eq_some_iff.mp H
            obtain ⟨t135, A200, H⟩ := H
            replace H : (if t135 = true then ((strings_HasPrefix.f a0_4 (⟨#[104, 116, 116, 112, 115, 58, 47, 47]⟩ : ByteArray)).bind fun t136 => (client_Check.j1 kj1 (!t136) a0_0 a0_1 a0_2 true a0_4 l0_5)) else (client_Check.j1 kj1 true a0_0 a0_1 a0_2 true a0_4 l0_5)) = some r := H
            have A20 := Aside0.mk A200
            clear A200
            by_cases c21 : t135 = true
            · subst c21
              have H1 : ((strings_HasPrefix.f a0_4 (⟨#[104, 116, 116, 112, 115, 58, 47, 47]⟩ : ByteArray)).bind fun t136 => (client_Check.j1 kj1 (!t136) a0_0 a0_1 a0_2 true a0_4 l0_5)) = some r := by rw [if_pos rfl] at H; exact H
              clear H
              have H := H1
              clear H1
              replace H := Option.bind_eq_some_iff.mp H
              obtain ⟨t136, A220, H⟩ := H
              replace H : (client_Check.j1 kj1 (!t136) a0_0 a0_1 a0_2 true a0_4 l0_5) = some r := H
              have A22 := Aside0.mk A220
              clear A220
              have H' := Aside0.mk H
              clear H
              obtain ⟨hcz23_0, hcz23_1, hcz23_2, hcz23_3, hcz23_4, hcz23_5, hfz23_0, hfz23_1, hfz23_2, hfz23_3, hfz23_4, hfz23_5⟩ := cz6_ BK132.out
              go_wp2_with (first | (go_at_call 52; (with_reducible refine (client_within.calls kj1 a0_4 9 256 33 true _ A20.out).mono ?_); rintro e w' ⟨rfl, ⟨nd, rfl⟩⟩) | (go_at_call 53; (with_reducible refine (strings_HasPrefix.calls a0_4 (⟨#[104, 116, 116, 112, 115, 58, 47, 47]⟩ : ByteArray) t136 _ A22.out).mono ?_); rintro e w24 ⟨rfl, hb⟩; replace BK132 := Aside0.mk (blk_below (by ((with_reducible repeat (refine blk_drewN ?_ _)); exact BK132.out)) hb); replace HB := Aside0.mk (below_step (by (repeat (with_reducible first | exact HB.out | apply pw_below_drewN))) hb); clear hb))
              go_meet
              case rel => exact ⟨_, (!t136), rfl, H', ⟨by have := HJ1.out; (omega)⟩, ⟨BK132.out⟩, ⟨HB.out⟩⟩
            · replace c21 := Bool.eq_false_iff.mpr c21
              subst c21
              have H1 : (client_Check.j1 kj1 true a0_0 a0_1 a0_2 true a0_4 l0_5) = some r := by rw [if_neg (show ¬ (false = true) by decide)] at H; exact H
              clear H
              have H := H1
              clear H1
              have H' := Aside0.mk H
              clear H
              obtain ⟨hcz25_0, hcz25_1, hcz25_2, hcz25_3, hcz25_4, hcz25_5, hfz25_0, hfz25_1, hfz25_2, hfz25_3, hfz25_4, hfz25_5⟩ := cz6_ BK132.out
              go_wp2_with (first | (go_at_call 52; (with_reducible refine (client_within.calls kj1 a0_4 9 256 33 false _ A20.out).mono ?_); rintro e w' ⟨rfl, ⟨nd, rfl⟩⟩))
              go_meet
              case rel => exact ⟨_, (true), rfl, H', ⟨by have := HJ1.out; (omega)⟩, ⟨by ((with_reducible repeat (refine blk_drewN ?_ _)); exact BK132.out)⟩, ⟨by (repeat (with_reducible first | exact HB.out | apply pw_below_drewN))⟩⟩
      · replace c15 := Bool.eq_false_iff.mpr c15
        subst c15
        have H1 : (client_Check.j1 kj1 false a0_0 a0_1 a0_2 false a0_4 l0_5) = some r := by rw [if_neg (show ¬ (false = true) by decide)] at H; exact H
        clear H
        have H := H1
        clear H1
        have H' := Aside0.mk H
        clear H
        obtain ⟨hcz26_0, hcz26_1, hcz26_2, hcz26_3, hcz26_4, hcz26_5, hfz26_0, hfz26_1, hfz26_2, hfz26_3, hfz26_4, hfz26_5⟩ := cz6_ BK132.out
        go_wp2
        go_meet
        case rel => exact ⟨_, (false), rfl, H', ⟨by have := HJ1.out; (omega)⟩, ⟨BK132.out⟩, ⟨HB.out⟩⟩
     case rest =>
      clear HC14
      obtain ⟨kq, x49_13, rfl, HA, HJ13, BK132, HB⟩ := hcut
      cases kq with
      | zero => exact absurd HA.out (by simp [client_Check.j1])
      | succ kj13 =>
       have H := HA.out
       clear HA
       simp only [client_Check.j1] at H
       by_cases c27 : x49_13 = true
       · subst c27
         have H1 : (some 111) = some r := by rw [if_pos rfl] at H; exact H
         clear H
         have H := H1
         clear H1
         obtain rfl := Option.some.inj H
         go_wp2
         go_ret
         exact ⟨by (rfl), by (with_reducible exact HB.out)⟩
       · replace c27 := Bool.eq_false_iff.mpr c27
         subst c27
         have H1 : (if a0_3 = true then (client_Check.j2 kj13 false a0_0 a0_1 a0_2 a0_3 a0_4 l0_5) else (client_Check.j2 kj13 (a0_4.toList != ([] : List UInt8)) a0_0 a0_1 a0_2 a0_3 a0_4 l0_5)) = some r := by rw [if_neg (show ¬ (false = true) by decide)] at H; exact H
         clear H
         have H := H1
         clear H1
         have HC28 := Aside0.mk H
         clear H
         go_upto_region 5 with (fail)
         go_cut [57] (fun v57 wc => ∃ (kq : Nat) (x57_27 : Bool), v57 = .bool x57_27 ∧ Aside0 (client_Check.j2 kq x57_27 a0_0 a0_1 a0_2 a0_3 a0_4 l0_5 = some r) ∧ Aside0 (kq ≤ kj13) ∧ Aside0 (wc.heap[gb132]? = some (.cells #[.string a0_0, .string a0_1, .int .i64 a0_2, .bool a0_3, .string a0_4, (.slice A0_5 l0_5.length c0_5)] 40 (0, 0))) ∧ Aside0 (Below w.heap.size w wc))
         case first =>
          have H := HC28.out
          clear HC28
          by_cases c29 : a0_3 = true
          · subst c29
            have H1 : (client_Check.j2 kj13 false a0_0 a0_1 a0_2 true a0_4 l0_5) = some r := by rw [if_pos rfl] at H; exact H
            clear H
            have H := H1
            clear H1
            have H' := Aside0.mk H
            clear H
            obtain ⟨hcz30_0, hcz30_1, hcz30_2, hcz30_3, hcz30_4, hcz30_5, hfz30_0, hfz30_1, hfz30_2, hfz30_3, hfz30_4, hfz30_5⟩ := cz6_ BK132.out
            go_wp2
            go_meet
            case rel => exact ⟨_, (false), rfl, H', ⟨by have := HJ1.out; have := HJ13.out; (omega)⟩, ⟨BK132.out⟩, ⟨HB.out⟩⟩
          · replace c29 := Bool.eq_false_iff.mpr c29
            subst c29
            have H1 : (client_Check.j2 kj13 (a0_4.toList != ([] : List UInt8)) a0_0 a0_1 a0_2 false a0_4 l0_5) = some r := by rw [if_neg (show ¬ (false = true) by decide)] at H; exact H
            clear H
            have H := H1
            clear H1
            have H' := Aside0.mk H
            clear H
            obtain ⟨hcz31_0, hcz31_1, hcz31_2, hcz31_3, hcz31_4, hcz31_5, hfz31_0, hfz31_1, hfz31_2, hfz31_3, hfz31_4, hfz31_5⟩ := cz6_ BK132.out
            go_wp2
            go_meet
            case rel => exact ⟨_, ((a0_4.toList != ([] : List UInt8))), (by (simp; (generalize ByteArray.toList _ = z_); cases z_ <;> rfl)), H', ⟨by have := HJ1.out; have := HJ13.out; (omega)⟩, ⟨BK132.out⟩, ⟨HB.out⟩⟩
         case rest =>
          clear HC28
          obtain ⟨kq, x57_27, rfl, HA, HJ27, BK132, HB⟩ := hcut
          cases kq with
          | zero => exact absurd HA.out (by simp [client_Check.j2])
          | succ kj27 =>
           have H := HA.out
           clear HA
           simp only [client_Check.j2] at H
           by_cases c32 : x57_27 = true
           · subst c32
             have H1 : (some 111) = some r := by rw [if_pos rfl] at H; exact H
             clear H
             have H := H1
             clear H1
             obtain rfl := Option.some.inj H
             go_wp2
             go_ret
             exact ⟨by (rfl), by (with_reducible exact HB.out)⟩
           · replace c32 := Bool.eq_false_iff.mpr c32
             subst c32
             have H1 : ((strings_Join.f l0_5 (⟨#[32]⟩ : ByteArray)).bind fun t137 => ((urlform_Scopes.f kj27 t137).bind fun bt138 => (if bt138.2 = 0 then ((slices_Equal_string_string.f bt138.1 l0_5).bind fun t142 => (if t142 = true then (some 0) else (some 111))) else (some 111)))) = some r := by rw [if_neg (show ¬ (false = true) by decide)] at H; exact H
             clear H
             have H := H1
             clear H1
             replace H := Option.bind_eq_some_iff.mp H
             obtain ⟨t137, A330, H⟩ := H
             replace H : ((urlform_Scopes.f kj27 t137).bind fun bt138 => (if bt138.2 = 0 then ((slices_Equal_string_string.f bt138.1 l0_5).bind fun t142 => (if t142 = true then (some 0) else (some 111))) else (some 111))) = some r := H
             have A33 := Aside0.mk A330
             clear A330
             replace H := Option.bind_eq_some_iff.mp H
             obtain ⟨⟨t138, t139⟩, A340, H⟩ := H
             replace H : (if t139 = 0 then ((slices_Equal_string_string.f t138 l0_5).bind fun t142 => (if t142 = true then (some 0) else (some 111))) else (some 111)) = some r := H
             have A34 := Aside0.mk A340
             clear A340
             by_cases c35 : t139 = 0
             · rw [if_pos c35] at H
               have c35b0 : (t139 == 0) = true := beq_iff_eq.mpr c35
               have c35b1 : (t139 != 0) = false := bne_eq_false_iff_eq.mpr c35
               clear c35
               replace H := Option.bind_eq_some_iff.mp H
               obtain ⟨t142, A360, H⟩ := H
               replace H : (if t142 = true then (some 0) else (some 111)) = some r := H
               have A36 := Aside0.mk A360
               clear A360
               by_cases c37 : t142 = true
               · subst c37
                 have H1 : (some 0) = some r := by rw [if_pos rfl] at H; exact H
                 clear H
                 have H := H1
                 clear H1
                 obtain rfl := Option.some.inj H
                 obtain ⟨hcz38_0, hcz38_1, hcz38_2, hcz38_3, hcz38_4, hcz38_5, hfz38_0, hfz38_1, hfz38_2, hfz38_3, hfz38_4, hfz38_5⟩ := cz6_ BK132.out
                 go_wp2_with (first | ((with_reducible refine gate_callee (f := 55) rfl ?_); refine goesL_ (some 61) rfl rfl Tryz.func55 (by kernel_rfl) rfl #[.slice A0_5 l0_5.length c0_5, .string (⟨#[32]⟩ : ByteArray)] rfl (by ((try simp only [List.map_toArray, List.map_cons, List.map_nil]); (rfl))) ?_; (with_reducible refine (strings_Join.calls _ _ l0_5 (⟨#[32]⟩ : ByteArray) t137 _ ?side1 ?side2 A33.out).mono ?_); (case side1 => repeat (exact (Kd.C_below HR0_5.out HB.out))); (case side2 => exact HC0_5.out); rintro e w39 ⟨rfl, hb⟩; refine ⟨_, rfl, ?_⟩; replace BK132 := Aside0.mk (blk_below BK132.out hb); replace HB := Aside0.mk (below_step HB.out hb); clear hb) | ((with_reducible refine gate_callee (f := 54) rfl ?_); refine goesL_ (some 62) rfl rfl Tryz.func54 (by kernel_rfl) rfl #[.string t137] rfl (by ((try simp only [List.map_toArray, List.map_cons, List.map_nil]); (rfl))) ?_; (with_reducible refine (urlform_Scopes.calls kj27 t137 t138 t139 _ A34.out).mono ?_); rintro e w40 ⟨v140, rfl, ho0, hb⟩; refine ⟨_, rfl, ?_⟩; have HO141 := Aside0.mk (Kd.R_lower ho0 (below_size HB.out)); replace BK132 := Aside0.mk (blk_below BK132.out hb); replace HB := Aside0.mk (below_step HB.out hb); clear hb ho0; obtain ⟨hcz41_0, hcz41_1, hcz41_2, hcz41_3, hcz41_4, hcz41_5, hfz41_0, hfz41_1, hfz41_2, hfz41_3, hfz41_4, hfz41_5⟩ := cz6_ BK132.out; obtain ⟨Ao42, co42, eo42⟩ := Kd.R_slice HO141.out; subst eo42) | (go_at_call 56; (with_reducible refine (slices_Equal_string_string.calls _ _ t138 _ _ l0_5 true _ ?side1 ?side2 ?side3 ?side4 A36.out).mono ?_); (case side1 => repeat (exact (Kd.R_reads' HO141.out).2.2)); (case side2 => exact (Kd.R_reads' HO141.out).2.1); (case side3 => repeat (exact (Kd.C_below HR0_5.out HB.out))); (case side4 => exact HC0_5.out); rintro e w43 ⟨rfl, hb⟩; replace HO141 := Aside0.mk (Kd.R_below HO141.out hb); replace BK132 := Aside0.mk (blk_below BK132.out hb); replace HB := Aside0.mk (below_step HB.out hb); clear hb))
                 go_ret
                 exact ⟨by (rfl), by (with_reducible exact HB.out)⟩
               · replace c37 := Bool.eq_false_iff.mpr c37
                 subst c37
                 have H1 : (some 111) = some r := by rw [if_neg (show ¬ (false = true) by decide)] at H; exact H
                 clear H
                 have H := H1
                 clear H1
                 obtain rfl := Option.some.inj H
                 obtain ⟨hcz44_0, hcz44_1, hcz44_2, hcz44_3, hcz44_4, hcz44_5, hfz44_0, hfz44_1, hfz44_2, hfz44_3, hfz44_4, hfz44_5⟩ := cz6_ BK132.out
                 go_wp2_with (first | ((with_reducible refine gate_callee (f := 55) rfl ?_); refine goesL_ (some 61) rfl rfl Tryz.func55 (by kernel_rfl) rfl #[.slice A0_5 l0_5.length c0_5, .string (⟨#[32]⟩ : ByteArray)] rfl (by ((try simp only [List.map_toArray, List.map_cons, List.map_nil]); (rfl))) ?_; (with_reducible refine (strings_Join.calls _ _ l0_5 (⟨#[32]⟩ : ByteArray) t137 _ ?side1 ?side2 A33.out).mono ?_); (case side1 => repeat (exact (Kd.C_below HR0_5.out HB.out))); (case side2 => exact HC0_5.out); rintro e w45 ⟨rfl, hb⟩; refine ⟨_, rfl, ?_⟩; replace BK132 := Aside0.mk (blk_below BK132.out hb); replace HB := Aside0.mk (below_step HB.out hb); clear hb) | ((with_reducible refine gate_callee (f := 54) rfl ?_); refine goesL_ (some 62) rfl rfl Tryz.func54 (by kernel_rfl) rfl #[.string t137] rfl (by ((try simp only [List.map_toArray, List.map_cons, List.map_nil]); (rfl))) ?_; (with_reducible refine (urlform_Scopes.calls kj27 t137 t138 t139 _ A34.out).mono ?_); rintro e w46 ⟨v140, rfl, ho0, hb⟩; refine ⟨_, rfl, ?_⟩; have HO141 := Aside0.mk (Kd.R_lower ho0 (below_size HB.out)); replace BK132 := Aside0.mk (blk_below BK132.out hb); replace HB := Aside0.mk (below_step HB.out hb); clear hb ho0; obtain ⟨hcz47_0, hcz47_1, hcz47_2, hcz47_3, hcz47_4, hcz47_5, hfz47_0, hfz47_1, hfz47_2, hfz47_3, hfz47_4, hfz47_5⟩ := cz6_ BK132.out; obtain ⟨Ao48, co48, eo48⟩ := Kd.R_slice HO141.out; subst eo48) | (go_at_call 56; (with_reducible refine (slices_Equal_string_string.calls _ _ t138 _ _ l0_5 false _ ?side1 ?side2 ?side3 ?side4 A36.out).mono ?_); (case side1 => repeat (exact (Kd.R_reads' HO141.out).2.2)); (case side2 => exact (Kd.R_reads' HO141.out).2.1); (case side3 => repeat (exact (Kd.C_below HR0_5.out HB.out))); (case side4 => exact HC0_5.out); rintro e w49 ⟨rfl, hb⟩; replace HO141 := Aside0.mk (Kd.R_below HO141.out hb); replace BK132 := Aside0.mk (blk_below BK132.out hb); replace HB := Aside0.mk (below_step HB.out hb); clear hb))
                 go_ret
                 exact ⟨by (rfl), by (with_reducible exact HB.out)⟩
             · rw [if_neg c35] at H
               have c35b0 : (t139 == 0) = false := beq_eq_false_iff_ne.mpr c35
               have c35b1 : (t139 != 0) = true := bne_iff_ne.mpr c35
               obtain rfl := Option.some.inj H
               obtain ⟨hcz50_0, hcz50_1, hcz50_2, hcz50_3, hcz50_4, hcz50_5, hfz50_0, hfz50_1, hfz50_2, hfz50_3, hfz50_4, hfz50_5⟩ := cz6_ BK132.out
               go_wp2_with (first | ((with_reducible refine gate_callee (f := 55) rfl ?_); refine goesL_ (some 61) rfl rfl Tryz.func55 (by kernel_rfl) rfl #[.slice A0_5 l0_5.length c0_5, .string (⟨#[32]⟩ : ByteArray)] rfl (by ((try simp only [List.map_toArray, List.map_cons, List.map_nil]); (rfl))) ?_; (with_reducible refine (strings_Join.calls _ _ l0_5 (⟨#[32]⟩ : ByteArray) t137 _ ?side1 ?side2 A33.out).mono ?_); (case side1 => repeat (exact (Kd.C_below HR0_5.out HB.out))); (case side2 => exact HC0_5.out); rintro e w51 ⟨rfl, hb⟩; refine ⟨_, rfl, ?_⟩; replace BK132 := Aside0.mk (blk_below BK132.out hb); replace HB := Aside0.mk (below_step HB.out hb); clear hb) | ((with_reducible refine gate_callee (f := 54) rfl ?_); refine goesL_ (some 62) rfl rfl Tryz.func54 (by kernel_rfl) rfl #[.string t137] rfl (by ((try simp only [List.map_toArray, List.map_cons, List.map_nil]); (rfl))) ?_; (with_reducible refine (urlform_Scopes.calls kj27 t137 t138 t139 _ A34.out).mono ?_); rintro e w52 ⟨v140, rfl, ho0, hb⟩; refine ⟨_, rfl, ?_⟩; have HO141 := Aside0.mk (Kd.R_lower ho0 (below_size HB.out)); replace BK132 := Aside0.mk (blk_below BK132.out hb); replace HB := Aside0.mk (below_step HB.out hb); clear hb ho0))
               go_ret
               exact ⟨by (rfl), by (with_reducible exact HB.out)⟩
end Go.Proofs.YtmimipgmhgalaaaGreatDoor.PAll
end
section
namespace Go.Proofs.YtmimipgmhgalaaaGreatDoor.PAll
open Go.RowKit Go.Proofs.YtmimipgmhgalaaaGreatDoorW.PrintWords
set_option linter.unusedVariables false
abbrev ruleV (f : Nat) : Value := .agg #[.func (.func f) #[] #[]]
theorem run_newKey {P : Program} {T K E : TypeId} (hT : P.underlying T = some (.map K E)) (hK : P.underlying K = some .string) (w : World) (es : Array MapEntry) (n : Nat) (k : ByteArray) (v : Value)
    (hno : Instr.findNow .string (.string k) es.toList 0 = some none) :
    (Instr.mapUpdate T (.map (some w.heap.size)) (.string k) v).run P (w.alloc (.map es n)) = .ok () (w.alloc (.map (es.push ⟨.string k, v, n⟩) (n + 1))) := by
  have hg : (w.alloc (.map es n)).heap[w.heap.size]? = some (.map es n) := by show (w.heap.push _)[w.heap.size]? = _; simp
  have hset : ({ (w.alloc (.map es n)) with heap := (w.alloc (.map es n)).heap.setIfInBounds w.heap.size (.map (es.push ⟨.string k, v, n⟩) (n + 1)) } : World) = w.alloc (.map (es.push ⟨.string k, v, n⟩) (n + 1)) := by
    show ({ w with heap := (w.heap.push _).setIfInBounds w.heap.size _ } : World) = { w with heap := w.heap.push _ }
    congr 1
    apply Array.ext
    · simp
    · intro i h1 h2
      simp only [Array.size_setIfInBounds, Array.size_push] at h1
      rw [Array.getElem_setIfInBounds (by simpa using h1)]
      by_cases hi : w.heap.size = i
      · subst hi; simp
      · rw [if_neg hi, Array.getElem_push_lt (by omega), Array.getElem_push_lt (by omega)]
  simp only [Instr.mapUpdate, Sem.run_bind, run_underlying hT, MapKept.run_getObj_map hg, MapKept.run_checkKey hK (show MapKept.IsKey .string (.string k) from trivial) false 9999, MapKept.run_findKey hK hno, Result.andThen, MapKept.run_setObj_map _ hg, hset]
abbrev rE1 : MapEntry := ⟨.string ⟨#[105, 100]⟩, ruleV 117, 0⟩
abbrev rE2 : MapEntry := ⟨.string ⟨#[115, 101, 99, 114, 101, 116]⟩, ruleV 118, 1⟩
abbrev rE3 : MapEntry := ⟨.string ⟨#[117, 114, 108]⟩, ruleV 119, 2⟩
abbrev rE4 : MapEntry := ⟨.string ⟨#[112, 105, 110, 103]⟩, ruleV 120, 3⟩
abbrev rE5 : MapEntry := ⟨.string ⟨#[103, 114, 97, 110, 116, 115]⟩, ruleV 121, 4⟩
abbrev rE6 : MapEntry := ⟨.string ⟨#[115, 99, 111, 112, 101]⟩, ruleV 122, 5⟩
def ruleTab : Array MapEntry := #[rE1, rE2, rE3, rE4, rE5, rE6]
set_option maxHeartbeats 4000000 in
set_option maxRecDepth 100000 in
theorem client_rules.calls (w : World) : Calls Tryz.prog 83 #[] w fun e w' => e = .returned (.map (some w.heap.size)) ∧ w' = w.alloc (.map ruleTab 6) := by
  have h0 := run_newKey Tryz.underlying133 Tryz.underlying9 w #[] 0 ⟨#[105, 100]⟩ (ruleV 117) rfl
  have h1 := run_newKey Tryz.underlying133 Tryz.underlying9 w #[rE1] 1 ⟨#[115, 101, 99, 114, 101, 116]⟩ (ruleV 118) (by kernel_rfl)
  have h2 := run_newKey Tryz.underlying133 Tryz.underlying9 w #[rE1, rE2] 2 ⟨#[117, 114, 108]⟩ (ruleV 119) (by kernel_rfl)
  have h3 := run_newKey Tryz.underlying133 Tryz.underlying9 w #[rE1, rE2, rE3] 3 ⟨#[112, 105, 110, 103]⟩ (ruleV 120) (by kernel_rfl)
  have h4 := run_newKey Tryz.underlying133 Tryz.underlying9 w #[rE1, rE2, rE3, rE4] 4 ⟨#[103, 114, 97, 110, 116, 115]⟩ (ruleV 121) (by kernel_rfl)
  have h5 := run_newKey Tryz.underlying133 Tryz.underlying9 w #[rE1, rE2, rE3, rE4, rE5] 5 ⟨#[115, 99, 111, 112, 101]⟩ (ruleV 122) (by kernel_rfl)
  simp only [List.push_toArray, List.nil_append, List.cons_append, Nat.reduceAdd] at h0 h1 h2 h3 h4 h5
  have hm : (Instr.makeMap 133 none).run Tryz.prog w = .ok (.map (some w.heap.size)) (w.alloc (.map #[] 0)) := run_makeMap ..
  go_enter Tryz.func83, Tryz.ntmps83
  go_wp2
  go_ret
  exact ⟨rfl, rfl⟩
end Go.Proofs.YtmimipgmhgalaaaGreatDoor.PAll
namespace Go.Proofs.YtmimipgmhgalaaaGreatDoor.PAll
open Go.RowKit Go.Proofs.YtmimipgmhgalaaaGreatDoorW.PrintWords
set_option linter.unusedVariables false
abbrev clCells (i s : ByteArray) (gr : Int) (pg : Bool) (u : ByteArray) (sv : Value) : Array Value := #[.string i, .string s, .int .i64 gr, .bool pg, .string u, sv]
structure Cl (w0 w : World) (g : Nat) (i s : ByteArray) (gr : Int) (pg : Bool) (u : ByteArray) (sv : Value) : Prop where
  b : w.heap[g]? = some (.cells (clCells i s gr pg u sv) 40 (0, 0))
  o : Below w0.heap.size w0 w
  g : w0.heap.size ≤ g
section
variable {w0 w : World} {g : Nat} {i s : ByteArray} {gr : Int} {pg : Bool} {u : ByteArray} {sv : Value} (h : Cl w0 w g i s gr pg u sv)
include h
theorem Cl.c0 : w.cell? ⟨g, 0, none⟩ = some (.string i) := by rw [blk_cell h.b]; rfl
theorem Cl.c1 : w.cell? ⟨g, 1, none⟩ = some (.string s) := by rw [blk_cell h.b]; rfl
theorem Cl.c2 : w.cell? ⟨g, 2, none⟩ = some (.int .i64 gr) := by rw [blk_cell h.b]; rfl
theorem Cl.c3 : w.cell? ⟨g, 3, none⟩ = some (.bool pg) := by rw [blk_cell h.b]; rfl
theorem Cl.c4 : w.cell? ⟨g, 4, none⟩ = some (.string u) := by rw [blk_cell h.b]; rfl
theorem Cl.c5 : w.cell? ⟨g, 5, none⟩ = some sv := by rw [blk_cell h.b]; rfl
theorem Cl.drewN (n : Nat) : Cl w0 (w.drewN n) g i s gr pg u sv := ⟨h.b, pw_below_drewN h.o n, h.g⟩
theorem Cl.set0 (x : ByteArray) : Cl w0 (w.setCell ⟨g, 0, none⟩ (.string x)) g x s gr pg u sv := ⟨blk_set h.b 0 _, below_set h.o h.g, h.g⟩
theorem Cl.set1 (x : ByteArray) : Cl w0 (w.setCell ⟨g, 1, none⟩ (.string x)) g i x gr pg u sv := ⟨blk_set h.b 1 _, below_set h.o h.g, h.g⟩
theorem Cl.set2 (x : Int) : Cl w0 (w.setCell ⟨g, 2, none⟩ (.int .i64 x)) g i s x pg u sv := ⟨blk_set h.b 2 _, below_set h.o h.g, h.g⟩
theorem Cl.set3 (x : Bool) : Cl w0 (w.setCell ⟨g, 3, none⟩ (.bool x)) g i s gr x u sv := ⟨blk_set h.b 3 _, below_set h.o h.g, h.g⟩
theorem Cl.set4 (x : ByteArray) : Cl w0 (w.setCell ⟨g, 4, none⟩ (.string x)) g i s gr pg x sv := ⟨blk_set h.b 4 _, below_set h.o h.g, h.g⟩
theorem Cl.set5 (x : Value) : Cl w0 (w.setCell ⟨g, 5, none⟩ x) g i s gr pg u x := ⟨blk_set h.b 5 _, below_set h.o h.g, h.g⟩
theorem Cl.step {w' : World} (hb : Below w.heap.size w w') : Cl w0 w' g i s gr pg u sv := ⟨blk_below h.b hb, h.o.trans (hb.mono h.o.size), h.g⟩
end
set_option maxHeartbeats 1000000 in
theorem take_id (g : Nat) (i s : ByteArray) (gr : Int) (pg : Bool) (u : ByteArray) (sv : Value) (v : ByteArray) (w0 w : World) (h : Cl w0 w g i s gr pg u sv) :
    Calls Tryz.prog 117 #[.pointer (some ⟨g, 0, none⟩), .string v] w fun e w' => e = .returned (.bool true) ∧ Cl w0 w' g v s gr pg u sv ∧ KeepBut w w' g none := by
  have hc := h.c0
  have hf := blk_frozen h.b 0
  go_enter Tryz.func117, Tryz.ntmps117
  go_wp2
  go_ret
  exact ⟨rfl, h.set0 v, (KeepBut.refl w g none).set_ 0 _⟩
set_option maxHeartbeats 1000000 in
theorem take_secret (g : Nat) (i s : ByteArray) (gr : Int) (pg : Bool) (u : ByteArray) (sv : Value) (v : ByteArray) (w0 w : World) (h : Cl w0 w g i s gr pg u sv) :
    Calls Tryz.prog 118 #[.pointer (some ⟨g, 0, none⟩), .string v] w fun e w' => e = .returned (.bool true) ∧ Cl w0 w' g i v gr pg u sv ∧ KeepBut w w' g none := by
  have hc := h.c1
  have hf := blk_frozen h.b 1
  go_enter Tryz.func118, Tryz.ntmps118
  go_wp2
  go_ret
  exact ⟨rfl, h.set1 v, (KeepBut.refl w g none).set_ 1 _⟩
set_option maxHeartbeats 1000000 in
theorem take_url (g : Nat) (i s : ByteArray) (gr : Int) (pg : Bool) (u : ByteArray) (sv : Value) (v : ByteArray) (w0 w : World) (h : Cl w0 w g i s gr pg u sv) :
    Calls Tryz.prog 119 #[.pointer (some ⟨g, 0, none⟩), .string v] w fun e w' => e = .returned (.bool true) ∧ Cl w0 w' g i s gr pg v sv ∧ KeepBut w w' g none := by
  have hc := h.c4
  have hf := blk_frozen h.b 4
  go_enter Tryz.func119, Tryz.ntmps119
  go_wp2
  go_ret
  exact ⟨rfl, h.set4 v, (KeepBut.refl w g none).set_ 4 _⟩
set_option maxHeartbeats 1000000 in
theorem take_ping (g : Nat) (i s : ByteArray) (gr : Int) (pg : Bool) (u : ByteArray) (sv : Value) (v : ByteArray) (w0 w : World) (h : Cl w0 w g i s gr pg u sv) :
    Calls Tryz.prog 120 #[.pointer (some ⟨g, 0, none⟩), .string v] w fun e w' => e = .returned (.bool (v.toList == [] || v.toList == [121, 101, 115])) ∧ Cl w0 w' g i s gr (v.toList != []) u sv ∧ KeepBut w w' g none := by
  have hc := h.c3
  have hf := blk_frozen h.b 3
  by_cases h1 : v.toList = []
  · go_enter Tryz.func120, Tryz.ntmps120
    go_wp2
    go_ret
    exact ⟨by rw [h1]; rfl, by rw [h1]; exact h.set3 _, (KeepBut.refl w g none).set_ 3 _⟩
  · have e1 : (v.toList != []) = !v.toList.isEmpty := by cases v.toList <;> rfl
    have e2 : (v.toList == []) = v.toList.isEmpty := by cases v.toList <;> rfl
    go_enter Tryz.func120, Tryz.ntmps120
    go_wp2
    go_ret
    exact ⟨by rw [e2]; rfl, by rw [e1]; exact h.set3 _, (KeepBut.refl w g none).set_ 3 _⟩
theorem R_above {w : World} {base : Nat} {v : Value} {l : List ByteArray} (h : Kd.R Kd.string 9 w base (fun _ => True) v l) : Kd.R Kd.string 9 w base (fun k => base ≤ k) v l := Kd.R_mono (Kd.R_bound h) (fun k hk => hk.2.1)
theorem R_any {w : World} {base : Nat} {P : Nat → Prop} {v : Value} {l : List ByteArray} (h : Kd.R Kd.string 9 w base P v l) : Kd.R Kd.string 9 w base (fun _ => True) v l := Kd.R_mono h (fun _ _ => trivial)
set_option maxHeartbeats 1000000 in
theorem take_scope (k : Nat) (g : Nat) (i s : ByteArray) (gr : Int) (pg : Bool) (u : ByteArray) (sv : Value) (v : ByteArray) (r1 : List ByteArray) (r2 : Int) (hf : urlform_Scopes.f k v = some (r1, r2)) (w0 w : World) (h : Cl w0 w g i s gr pg u sv) :
    Calls Tryz.prog 122 #[.pointer (some ⟨g, 0, none⟩), .string v] w fun e w' => e = .returned (.bool (r2 == 0)) ∧ ∃ sv', Cl w0 w' g i s gr pg u sv' ∧ Kd.R Kd.string 9 w' w.heap.size (fun _ => True) sv' r1 ∧ KeepBut w w' g none := by
  go_enter Tryz.func122, Tryz.ntmps122
  go_wp2_with (go_at_call 54; refine (urlform_Scopes.calls k v r1 r2 _ hf).mono ?_; rintro e w1 ⟨v0, rfl, ho, hb⟩; have h1 := h.step hb; have hc := h1.c5; have hfz := blk_frozen h1.b 5; have hkb := KeepBut.of_below hb g none; obtain ⟨Ao, co, rfl⟩ := Kd.R_slice ho)
  go_ret
  refine ⟨rfl, _, h1.set5 _, R_any (Kd.R_far (R_above ho) (fun k hk => ?_) _), hkb.set_ 5 _⟩
  have := blk_lt h.b
  exact fun e => by have e' : k = g := e; omega
def grantsL : List ByteArray → Int → Int × Bool
  | [], gr => (gr, true)
  | x :: r, gr => if x.toList = [100, 101, 118, 105, 99, 101] then grantsL r (Go.bits .or .i64 gr 1) else if x.toList = [99, 105, 98, 97] then grantsL r (Go.bits .or .i64 gr 2) else (gr, false)
theorem grantsL_drop (l : List ByteArray) (j : Nat) (h : j < l.length) (gr : Int) : grantsL (l.drop j) gr = if l[j].toList = [100, 101, 118, 105, 99, 101] then grantsL (l.drop (j + 1)) (Go.bits .or .i64 gr 1) else if l[j].toList = [99, 105, 98, 97] then grantsL (l.drop (j + 1)) (Go.bits .or .i64 gr 2) else (gr, false) := by
  rw [List.drop_eq_getElem_cons h]; rfl
set_option maxHeartbeats 4000000 in
set_option maxRecDepth 100000 in
theorem take_grants (k : Nat) (g : Nat) (i s : ByteArray) (gr : Int) (pg : Bool) (u : ByteArray) (sv : Value) (v : ByteArray) (r1 : List ByteArray) (r2 : Int) (hf : urlform_Scopes.f k v = some (r1, r2)) (w0 w : World) (h : Cl w0 w g i s gr pg u sv) :
    Calls Tryz.prog 121 #[.pointer (some ⟨g, 0, none⟩), .string v] w fun e w' => e = .returned (.bool ((grantsL r1 gr).2 && r2 == 0)) ∧ Cl w0 w' g i s (grantsL r1 gr).1 pg u sv ∧ KeepBut w w' g none := by
  have hgw := blk_lt h.b
  go_enter Tryz.func121, Tryz.ntmps121
  go_wp2_with (go_at_call 54; refine (urlform_Scopes.calls k v r1 r2 _ hf).mono ?_; rintro e w1 ⟨v0, rfl, ho, hb⟩; have h1 := h.step hb; have hkb := KeepBut.of_below hb g none; obtain ⟨Ao, co, rfl⟩ := Kd.R_slice ho; have hR := R_above ho; clear ho hb)
  go_loopw [16] (fun v16 wr => ∃ (j : Nat) (gr' : Int), v16 = .int .i64 (j : Int) ∧ j ≤ r1.length ∧ Cl w0 wr g i s gr' pg u sv ∧ Kd.R Kd.string 9 wr w.heap.size (fun k => w.heap.size ≤ k) (.slice Ao r1.length co) r1 ∧ KeepBut w wr g none ∧ grantsL (r1.drop j) gr' = grantsL r1 gr) (fun v16 _ => r1.length - (intOf v16).toNat)
  case atStart => exact ⟨0, gr, rfl, Nat.zero_le _, h1, hR, hkb, rfl⟩
  case round =>
    obtain ⟨j, gr', rfl, hj, hC, hR', hK, hG⟩ := hrel
    clear h1 hR hkb
    have hlen : r1.length ≤ 9223372036854775807 := (Kd.R_reads' hR').2.2.2.1
    by_cases hlt : j < r1.length
    · rw [grantsL_drop r1 j hlt] at hG
      have HG := Lib.hid hG
      clear hG
      obtain ⟨ad, hA, hcell⟩ := ReadsOf.at_ (Kd.reads_of_C (enc := Value.string) (d := ByteArray.empty) (h1 := fun _ => rfl) (Kd.R_reads' hR').2.2) (j : Int) (by omega) (by omega)
      subst hA
      have hrd : rdOf ByteArray.empty r1 (j : Int) = r1[j] := by simp [rdOf, hlt]
      rw [hrd] at hcell
      simp only [Int.toNat_natCast] at hcell
      have c2 := hC.c2
      have f2 := blk_frozen hC.b 2
      have hC1 := hC.set2 (Go.bits .or .i64 gr' 1)
      have hC2 := hC.set2 (Go.bits .or .i64 gr' 2)
      have hRs := fun x : Value => Kd.R_far hR' (p := ⟨g, 2, none⟩) (fun k hk => by exact fun e => by have e' : k = g := e; omega) x
      by_cases hd : r1[j].toList = [100, 101, 118, 105, 99, 101]
      · go_wp2
        exact ⟨⟨j + 1, _, rfl, by omega, hC1, hRs _, hK.set_ 2 _, by rw [← HG.out, if_pos hd]⟩, by simp [intOf]; omega⟩
      · by_cases hd2 : r1[j].toList = [99, 105, 98, 97]
        · go_wp2
          exact ⟨⟨j + 1, _, rfl, by omega, hC2, hRs _, hK.set_ 2 _, by rw [← HG.out, if_neg hd, if_pos hd2]⟩, by simp [intOf]; omega⟩
        · have e : grantsL r1 gr = (gr', false) := by rw [← HG.out, if_neg hd, if_neg hd2]
          have hb1 : (r1[j].toList == [100, 101, 118, 105, 99, 101]) = false := beq_eq_false_iff_ne.2 hd
          have hb2 : (r1[j].toList == [99, 105, 98, 97]) = false := beq_eq_false_iff_ne.2 hd2
          go_wp2
          go_ret
          rw [e]
          exact ⟨rfl, hC, hK⟩
    · have hge : decide (j < r1.length) = false := decide_eq_false hlt
      have e : grantsL r1 gr = (gr', true) := by rw [← hG, List.drop_eq_nil_of_le (by omega)]; rfl
      go_wp2
      go_ret
      rw [e]
      exact ⟨rfl, hC, hK⟩
end Go.Proofs.YtmimipgmhgalaaaGreatDoor.PAll
namespace Go.Proofs.YtmimipgmhgalaaaGreatDoor.PAll
open Go.RowKit Go.Proofs.YtmimipgmhgalaaaGreatDoorW.PrintWords
set_option linter.unusedVariables false
set_option maxHeartbeats 1000000 in
theorem twice_one (a b name value : ByteArray) (pb : Nat) (w : World) (hb : w.heap[pb]? = some (.cells #[.string name, .string value] 68 (0, 0))) :
    Calls Tryz.prog 85 (#[.agg #[.string a, .string b]] ++ #[.pointer (some ⟨pb, 0, none⟩)]) w fun e w' => e = .returned (.bool (a.toList == name.toList)) ∧ Below w.heap.size w w' := by
  have hc : w.cell? ⟨pb, 0, none⟩ = some (.string name) := by rw [blk_cell hb]; rfl
  have hlt := blk_lt hb
  have hB := Below.refl w.heap.size w
  go_enter Tryz.func85, Tryz.ntmps85
  go_wp2
  go_ret
  exact ⟨rfl, hB.alloc (Nat.le_refl _) _⟩
theorem C_take {w : World} {A : Option Addr} {l : List S68} (h : Kd.C k68 w A l.length l) (i : Nat) (hi : i ≤ l.length) : Kd.C k68 w A (l.take i).length (l.take i) := by
  have hl : (l.take i).length = i := by rw [List.length_take]; omega
  refine ⟨rfl, by rw [hl]; exact Nat.le_trans hi h.2.1, fun h0 => ?_⟩
  obtain ⟨ad, e, hc⟩ := h.2.2 (by omega)
  refine ⟨ad, e, fun j p hj => hc j p ?_⟩
  have hji : j < i := by rw [← hl]; exact (List.getElem?_eq_some_iff.1 hj).1
  rw [List.getElem?_take_of_lt hji] at hj
  exact hj
def namedF (name : ByteArray) (q : S68) : Bool := q.f0.toList == name.toList
def placeL (name : ByteArray) : List S68 → Nat → Int
  | [], _ => -1
  | q :: r, i => if namedF name q = true then (i : Int) else placeL name r (i + 1)
theorem placeL_cons (name : ByteArray) (q : S68) (r : List S68) (i : Nat) : placeL name (q :: r) i = if (q.f0.toList == name.toList) = true then (i : Int) else placeL name r (i + 1) := rfl
theorem placeL_any (name : ByteArray) : ∀ (l : List S68) (i : Nat), decide (placeL name l i ≥ 0) = l.any (namedF name)
  | [], i => rfl
  | q :: r, i => by
    unfold placeL
    rw [List.any_cons]
    cases h : namedF name q with
    | true => rw [if_pos rfl, Bool.true_or]; exact decide_eq_true (by omega)
    | false => rw [if_neg (by simp), Bool.false_or]; exact placeL_any name r (i + 1)
set_option maxHeartbeats 4000000 in
set_option maxRecDepth 100000 in
theorem index_twice (A0 : Option Addr) (c0 : Nat) (l0 : List S68) (name value : ByteArray) (pb : Nat) (w : World) (hr0 : Kd.C k68 w A0 l0.length l0) (hb : w.heap[pb]? = some (.cells #[.string name, .string value] 68 (0, 0))) :
    Calls Tryz.prog 113 #[.slice A0 l0.length c0, .func (.func 85) #[] #[.pointer (some ⟨pb, 0, none⟩)]] w fun e w' => e = .returned (.int .i64 (placeL name l0 0)) ∧ Below w.heap.size w w' := by
  have e85 : ∀ args w, (callFunc 85 args).run Tryz.prog w = .ok (.enter 85 args) w := enters_of Tryz.func85 (by kernel_rfl) rfl
  have HR := Lib.hid hr0
  have hm := hr0.2.1
  clear hr0
  obtain ⟨G, hG0⟩ : ∃ G, placeL name l0 0 = G := ⟨_, rfl⟩
  rw [hG0]
  go_enter Tryz.func113, Tryz.ntmps113
  go_wp2
  go_loopw [8] (fun v8 wr => ∃ j : Nat, j ≤ l0.length ∧ v8 = .int .i64 (j : Int) ∧ Below w.heap.size w wr ∧ placeL name (l0.drop j) j = G) (fun v8 _ => l0.length - (intOf v8).toNat)
  case atStart => exact ⟨0, Nat.zero_le _, rfl, Below.refl _ _, hG0⟩
  case round =>
    obtain ⟨j, hj, rfl, hB, hG⟩ := hrel
    by_cases hlt : j < l0.length
    · have hbr := blk_below hb hB
      obtain ⟨ad, hA, hx0, hx1⟩ := at_T68 (Kd.C_below HR.out hB) (j : Int) (by omega) (by omega)
      subst hA
      have hp : rd_T68 l0 (j : Int) = l0[j] := by simp [rd_T68, hlt]
      rw [hp] at hx0 hx1
      rw [List.drop_eq_getElem_cons hlt] at hG
      simp only [Int.toNat_natCast] at hx0 hx1
      clear hp
      generalize hpk : l0[j] = p at *
      have hcall := twice_one p.f0 p.f1 name value pb wr hbr
      rw [placeL_cons] at hG
      obtain ⟨r, hr⟩ : ∃ r, (p.f0.toList == name.toList) = r := ⟨_, rfl⟩
      rw [hr] at hG hcall
      cases r with
      | true =>
        rw [if_pos rfl] at hG
        have HG := Lib.hid hG
        clear hG
        go_wp2_with (go_at_fn 85; refine hcall.mono ?_; rintro e w1 ⟨rfl, hb1⟩)
        go_ret
        exact ⟨by rw [← HG.out]; rfl, hB.trans (hb1.mono hB.size)⟩
      | false =>
        rw [if_neg (by simp)] at hG
        have HG := Lib.hid hG
        clear hG
        go_wp2_with (go_at_fn 85; refine hcall.mono ?_; rintro e w1 ⟨rfl, hb1⟩)
        exact ⟨⟨j + 1, by omega, rfl, hB.trans (hb1.mono hB.size), HG.out⟩, by simp [intOf]; omega⟩
    · have hge : decide (j < l0.length) = false := decide_eq_false hlt
      rw [List.drop_eq_nil_of_le (by omega)] at hG
      have HG := Lib.hid hG
      clear hG
      go_wp2
      go_ret
      exact ⟨by rw [← HG.out]; rfl, hB⟩
set_option maxHeartbeats 1000000 in
theorem all_twice (A0 : Option Addr) (c0 : Nat) (l0 : List S68) (name value : ByteArray) (pb : Nat) (w : World) (hr0 : Kd.C k68 w A0 l0.length l0) (hb : w.heap[pb]? = some (.cells #[.string name, .string value] 68 (0, 0))) :
    Calls Tryz.prog 84 #[.slice A0 l0.length c0, .func (.func 85) #[] #[.pointer (some ⟨pb, 0, none⟩)]] w fun e w' => e = .returned (.bool (l0.any (namedF name))) ∧ Below w.heap.size w w' := by
  rw [← placeL_any name l0 0]
  have hcall := index_twice A0 c0 l0 name value pb w hr0 hb
  go_enter Tryz.func84, Tryz.ntmps84
  go_wp2_with (go_at_call 113; refine hcall.mono ?_; rintro e w1 ⟨rfl, hb1⟩)
  go_ret
  exact ⟨rfl, hb1⟩
end Go.Proofs.YtmimipgmhgalaaaGreatDoor.PAll
end
section
namespace Go.Proofs.YtmimipgmhgalaaaGreatDoor.Spec
open Go.Proofs.YtmimipgmhgalaaaGreatDoor.PAll
def withinL (l : List UInt8) (least most low : Nat) : Bool := l.all (fun c => decide (low ≤ c.toNat) && decide (c.toNat ≤ 126)) && (decide (least ≤ l.length) && decide (l.length ≤ most))
structure ClT where
  i : ByteArray
  s : ByteArray
  gr : Int
  pg : Bool
  u : ByteArray
  sc : List ByteArray
def httpsL : List UInt8 := [104, 116, 116, 112, 115, 58, 47, 47]
def urlL (c : ClT) : Bool := if c.pg = true then (decide (Go.bits .and .i64 c.gr 2 ≠ 0) && decide (c.s.data.toList ≠ []) && withinL c.u.data.toList 9 256 33 && Lib.hasPrefix c.u.data.toList httpsL) else decide (c.u.data.toList = [])
def joinedL (l : List ByteArray) : List UInt8 := Lib.join (l.map (·.data.toList)) [32]
def scopesOk (l : List ByteArray) : Bool := decide ((scopesL (joinedL l)).2 = 0) && decide ((scopesL (joinedL l)).1.map bs = l)
def checkL (c : ClT) : Bool := withinL c.i.data.toList 1 64 33 && withinL c.s.data.toList 0 256 32 && decide (1 ≤ c.gr ∧ c.gr ≤ 3) && urlL c && scopesOk c.sc
def numC (b : Bool) : Int := if b = true then 0 else 111
end Go.Proofs.YtmimipgmhgalaaaGreatDoor.Spec
namespace Go.Proofs.YtmimipgmhgalaaaGreatDoor.Pure
open Go.RowKit Go.Proofs.YtmimipgmhgalaaaGreatDoorW.PrintWords Go.Proofs.YtmimipgmhgalaaaGreatDoor.Plain Go.Proofs.YtmimipgmhgalaaaGreatDoor.Spec Go.Proofs.YtmimipgmhgalaaaGreatDoor.PAll
set_option linter.unusedSimpArgs false
set_option linter.unusedVariables false
theorem btC (s : ByteArray) (i : Nat) (h : i < s.size) : bt s (i : Int) = (s[i].toNat : Int) := by
  unfold bt
  rw [dif_pos (by simpa using h)]
  rfl
theorem within_loop (s : ByteArray) (hs : s.size ≤ 140737488355328) (least most low : Nat) : ∀ (m i : Nat), i + m = s.size →
    Ev (fun k => client_within.l0 k s (least : Int) (most : Int) (low : Int) (s.size : Int) (i : Int)) ((s.data.toList.drop i).all (fun c => decide (low ≤ c.toNat) && decide (c.toNat ≤ 126)) && (decide (least ≤ s.size) && decide (s.size ≤ most))) := by
  intro m
  induction m with
  | zero =>
    intro i hi
    rw [List.drop_eq_nil_of_le (by rw [data_len]; omega), List.all_nil, Bool.true_and]
    by_cases h : least ≤ s.size
    · refine Ev.step (f := fun _ => some (decide ((s.size : Int) ≤ (most : Int)))) (fun k => ?_) (Ev.eq (Ev.now _) ?_)
      · simp only [client_within.l0]; rw [if_neg (by omega), if_pos (by omega)]
      · rw [decide_eq_true h, Bool.true_and, decide_eq_decide]; omega
    · refine Ev.step (f := fun _ => some false) (fun k => ?_) (Ev.eq (Ev.now _) ?_)
      · simp only [client_within.l0]; rw [if_neg (by omega), if_neg (by omega)]
      · rw [decide_eq_false h, Bool.false_and]
  | succ m ih =>
    intro i hi
    have hlt : i < s.size := by omega
    have hbt := btC s i hlt
    rw [drop_at s i hlt, List.all_cons]
    have ih1 := ih (i + 1) (by omega)
    generalize s[i] = c at *
    by_cases h1 : low ≤ c.toNat
    · by_cases h2 : c.toNat ≤ 126
      · rw [decide_eq_true h1, decide_eq_true h2, Bool.true_and, Bool.true_and]
        refine Ev.step (fun k => ?_) ih1
        simp only [client_within.l0]
        rw [if_pos (by omega), if_pos (by omega), if_pos (by omega), hbt, if_neg (by omega), if_neg (by omega), w64 (by omega) (by omega)]
        rfl
      · rw [decide_eq_false h2, Bool.and_false, Bool.false_and, Bool.false_and]
        refine Ev.step (f := fun _ => some false) (fun k => ?_) (Ev.now _)
        simp only [client_within.l0]
        rw [if_pos (by omega), if_pos (by omega), if_pos (by omega), hbt, if_neg (by omega), if_pos (by omega)]
    · rw [decide_eq_false h1, Bool.false_and, Bool.false_and, Bool.false_and]
      refine Ev.step (f := fun _ => some false) (fun k => ?_) (Ev.now _)
      simp only [client_within.l0]
      rw [if_pos (by omega), if_pos (by omega), if_pos (by omega), hbt, if_pos (by omega)]
theorem within_ev (s : ByteArray) (hs : s.size ≤ 140737488355328) (least most low : Nat) : Ev (fun k => client_within.f k s (least : Int) (most : Int) (low : Int)) (withinL s.data.toList least most low) := by
  unfold client_within.f withinL
  have := within_loop s hs least most low s.size 0 (by omega)
  rw [data_len]
  exact this
structure Small (c : ClT) : Prop where
  i : c.i.size ≤ 140737488355328
  s : c.s.size ≤ 140737488355328
  u : c.u.size ≤ 140737488355328
  n : c.sc.length ≤ 140737488355328
  j : (joinedL c.sc).length ≤ 140737488355328
theorem check_ev (c : ClT) (hs : Small c) : Ev (fun k => client_Check.f k c.i c.s c.gr c.pg c.u c.sc) (numC (checkL c)) := by
  have h2 : ∀ b : Bool, Ev (fun k => client_Check.j2 k b c.i c.s c.gr c.pg c.u c.sc) (numC (!b && scopesOk c.sc)) := by
    intro b
    cases b with
    | true =>
      refine Ev.step (f := fun _ => some 111) (fun k => ?_) (Ev.eq (Ev.now _) rfl)
      simp only [client_Check.j2, if_true]
    | false =>
      refine Ev.step (f := fun k => ((strings_Join.f c.sc (⟨#[32]⟩ : ByteArray)).bind fun t526 => ((urlform_Scopes.f k t526).bind fun bt527 => (if bt527.2 = 0 then ((slices_Equal_string_string.f bt527.1 c.sc).bind fun t531 => (if t531 = true then (some 0) else (some 111))) else (some 111))))) (fun k => ?_) ?_
      · simp only [client_Check.j2]
        rw [if_neg (by simp)]
      · have hj : strings_Join.f c.sc (⟨#[32]⟩ : ByteArray) = some (bs (joinedL c.sc)) := by
          unfold strings_Join.f
          rw [if_pos ⟨hs.n, hs.j⟩]
          rfl
        rw [hj]
        refine Ev.bind (Ev.now _) (Ev.bind (scopes_ev _) ?_)
        rw [bs_data]
        unfold scopesOk
        by_cases h0 : (scopesL (joinedL c.sc)).2 = 0
        · refine Ev.pos h0 (Ev.bind (a := decide ((scopesL (joinedL c.sc)).1.map bs = c.sc)) (Ev.now _) ?_)
          rw [decide_eq_true h0]
          by_cases h1 : (scopesL (joinedL c.sc)).1.map bs = c.sc
          · rw [decide_eq_true h1]; exact Ev.pos rfl (Ev.now _)
          · rw [decide_eq_false h1]; exact Ev.neg (by simp) (Ev.now _)
        · rw [decide_eq_false h0]
          exact Ev.neg h0 (Ev.eq (Ev.now _) rfl)
  have h1 : ∀ b : Bool, Ev (fun k => client_Check.j1 k b c.i c.s c.gr c.pg c.u c.sc) (numC (!b && ((c.pg || decide (c.u.data.toList = [])) && scopesOk c.sc))) := by
    intro b
    cases b with
    | true =>
      refine Ev.step (f := fun _ => some 111) (fun k => ?_) (Ev.eq (Ev.now _) rfl)
      simp only [client_Check.j1, if_true]
    | false =>
      cases hp : c.pg with
      | true =>
        have := h2 false
        rw [hp] at this
        refine Ev.step (fun k => ?_) (Ev.eq this (by simp))
        simp only [client_Check.j1]
        rw [if_neg (by simp), if_pos trivial]
      | false =>
        have := h2 (c.u.toList != [])
        rw [hp] at this
        refine Ev.step (fun k => ?_) (Ev.eq this ?_)
        · simp only [client_Check.j1]
          rw [if_neg (by simp), if_neg (by simp)]
        · rw [toList_data]
          congr 1
          cases c.u.data.toList <;> simp
  have h0 : ∀ b : Bool, Ev (fun k => client_Check.j0 k b c.i c.s c.gr c.pg c.u c.sc) (numC (!b && (urlL c && scopesOk c.sc))) := by
    intro b
    cases b with
    | true =>
      refine Ev.step (f := fun _ => some 111) (fun k => ?_) (Ev.eq (Ev.now _) rfl)
      simp only [client_Check.j0, if_true]
    | false =>
      unfold urlL
      cases hp : c.pg with
      | false =>
        have := h1 false
        rw [hp] at this
        refine Ev.step (fun k => ?_) (Ev.eq this (by simp))
        simp only [client_Check.j0]
        rw [if_neg (by simp), if_neg (by simp)]
      | true =>
        rw [if_pos rfl]
        have hh := fun b => h1 b
        simp only [hp] at hh
        by_cases g1 : Go.bits .and .i64 c.gr 2 = 0
        · refine Ev.step (fun k => ?_) (Ev.eq (hh true) (by simp [g1]))
          simp only [client_Check.j0]
          rw [if_neg (by simp), if_pos trivial, if_pos g1]
        · by_cases g2 : c.s.data.toList = []
          · refine Ev.step (fun k => ?_) (Ev.eq (hh true) (by simp [g2]))
            simp only [client_Check.j0]
            rw [if_neg (by simp), if_pos trivial, if_neg g1, if_pos (by rw [toList_data]; exact g2)]
          · refine Ev.step (f := fun k => ((client_within.f k c.u 9 256 33).bind fun t524 => (if t524 = true then ((strings_HasPrefix.f c.u (⟨#[104, 116, 116, 112, 115, 58, 47, 47]⟩ : ByteArray)).bind fun t525 => (client_Check.j1 k (!t525) c.i c.s c.gr true c.u c.sc)) else (client_Check.j1 k true c.i c.s c.gr true c.u c.sc)))) (fun k => ?_) ?_
            · simp only [client_Check.j0]
              rw [if_neg (by simp), if_pos trivial, if_neg g1, if_neg (by rw [toList_data]; exact g2)]
            · refine Ev.bind (within_ev c.u hs.u 9 256 33) ?_
              cases g3 : withinL c.u.data.toList 9 256 33 with
              | false => exact Ev.neg (by simp) (Ev.eq (hh true) (by simp))
              | true =>
                refine Ev.pos rfl (Ev.bind (a := Lib.hasPrefix c.u.data.toList httpsL) (Ev.now _) (Ev.eq (hh _) ?_))
                simp [g1, g2]
  unfold client_Check.f
  refine Ev.bind (within_ev c.i hs.i 1 64 33) ?_
  unfold checkL
  cases e1 : withinL c.i.data.toList 1 64 33 with
  | false => exact Ev.neg (by simp) (Ev.eq (h0 true) (by simp))
  | true =>
    refine Ev.pos rfl (Ev.bind (within_ev c.s hs.s 0 256 32) ?_)
    cases e2 : withinL c.s.data.toList 0 256 32 with
    | false => exact Ev.neg (by simp) (Ev.eq (h0 true) (by simp))
    | true =>
      refine Ev.pos rfl ?_
      by_cases g1 : c.gr < 1
      · refine Ev.pos g1 (Ev.eq (h0 true) ?_)
        rw [decide_eq_false (by omega)]; rfl
      · refine Ev.neg g1 (Ev.eq (h0 _) ?_)
        by_cases g2 : c.gr > 3
        · rw [decide_eq_true g2, decide_eq_false (by omega)]; rfl
        · rw [decide_eq_false g2, decide_eq_true (by omega)]; simp
end Go.Proofs.YtmimipgmhgalaaaGreatDoor.Pure
end
