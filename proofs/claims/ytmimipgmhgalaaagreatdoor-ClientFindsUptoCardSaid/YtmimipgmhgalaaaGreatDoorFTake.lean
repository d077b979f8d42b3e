/-
  client.rules: the table of a line's names: what the call makes, walked; what a look-up in it finds.
  What is done with the value of a line's name: the functions of client.rules' table, walked.
  Does a name stand among the first pairs of a line: slices.ContainsFunc with the function that parseLine makes, walked.
-/
import Derived.Test.YtmimipgmhgalaaaGreatDoorPAllx0
import Derived.Test.YtmimipgmhgalaaaGreatDoorFStr
import Derived.Maps.Own
import Derived.Outline
import Derived.Test.YtmimipgmhgalaaaGreatDoorPAllx2
import Derived.Deep.LoopGhost
namespace Go.Proofs.YtmimipgmhgalaaaGreatDoor.PAll
open Go.RowKit Go.Proofs.YtmimipgmhgalaaaGreatDoorW.PrintWords
set_option linter.unusedVariables false
abbrev ruleV (f : Nat) : Value := .agg #[.func (.func f) #[] #[]]
/-- A new key into a map that has just been made. -/
theorem run_newKey {P : Program} {T K E : TypeId} (hT : P.underlying T = some (.map K E)) (hK : P.underlying K = some .string) (w : World) (es : Array MapEntry) (n : Nat) (k : ByteArray) (v : Value)
    (hno : Instr.findNow .string (.string k) es.toList 0 = some none) :
    (Instr.mapUpdate T (.map (some w.heap.size)) (.string k) v).run P (w.alloc (.map es n)) = .ok () (w.alloc (.map (es.push ⟨.string k, v, n⟩) (n + 1))) := by
  have hg : (w.alloc (.map es n)).heap[w.heap.size]? = some (.map es n) := by show (w.heap.push _)[w.heap.size]? = _; simp
  have hset : ({ (w.alloc (.map es n)) with heap := (w.alloc (.map es n)).heap.setIfInBounds w.heap.size (.map (es.push ⟨.string k, v, n⟩) (n + 1)) } : World) = w.alloc (.map (es.push ⟨.string k, v, n⟩) (n + 1)) := by
    show ({ w with heap := (w.heap.push _).setIfInBounds w.heap.size _ } : World) = { w with heap := w.heap.push _ }
    congr 1
    apply Array.ext
    · simp
    · intro i h1 h2
      simp only [Array.size_setIfInBounds, Array.size_push] at h1
      rw [Array.getElem_setIfInBounds (by simpa using h1)]
      by_cases hi : w.heap.size = i
      · subst hi; simp
      · rw [if_neg hi, Array.getElem_push_lt (by omega), Array.getElem_push_lt (by omega)]
  simp only [Instr.mapUpdate, Sem.run_bind, run_underlying hT, MapKept.run_getObj_map hg, MapKept.run_checkKey hK (show MapKept.IsKey .string (.string k) from trivial) false 9999, MapKept.run_findKey hK hno, Result.andThen, MapKept.run_setObj_map _ hg, hset]
abbrev rE1 : MapEntry := ⟨.string ⟨#[105, 100]⟩, ruleV 117, 0⟩
abbrev rE2 : MapEntry := ⟨.string ⟨#[115, 101, 99, 114, 101, 116]⟩, ruleV 118, 1⟩
abbrev rE3 : MapEntry := ⟨.string ⟨#[117, 114, 108]⟩, ruleV 119, 2⟩
abbrev rE4 : MapEntry := ⟨.string ⟨#[112, 105, 110, 103]⟩, ruleV 120, 3⟩
abbrev rE5 : MapEntry := ⟨.string ⟨#[103, 114, 97, 110, 116, 115]⟩, ruleV 121, 4⟩
abbrev rE6 : MapEntry := ⟨.string ⟨#[115, 99, 111, 112, 101]⟩, ruleV 122, 5⟩
def ruleTab : Array MapEntry := #[rE1, rE2, rE3, rE4, rE5, rE6]
set_option maxHeartbeats 4000000 in
set_option maxRecDepth 100000 in
theorem client_rules.calls (w : World) : Calls Tryz.prog 83 #[] w fun e w' => e = .returned (.map (some w.heap.size)) ∧ w' = w.alloc (.map ruleTab 6) := by
  have h0 := run_newKey Tryz.underlying133 Tryz.underlying9 w #[] 0 ⟨#[105, 100]⟩ (ruleV 117) rfl
  have h1 := run_newKey Tryz.underlying133 Tryz.underlying9 w #[rE1] 1 ⟨#[115, 101, 99, 114, 101, 116]⟩ (ruleV 118) (by kernel_rfl)
  have h2 := run_newKey Tryz.underlying133 Tryz.underlying9 w #[rE1, rE2] 2 ⟨#[117, 114, 108]⟩ (ruleV 119) (by kernel_rfl)
  have h3 := run_newKey Tryz.underlying133 Tryz.underlying9 w #[rE1, rE2, rE3] 3 ⟨#[112, 105, 110, 103]⟩ (ruleV 120) (by kernel_rfl)
  have h4 := run_newKey Tryz.underlying133 Tryz.underlying9 w #[rE1, rE2, rE3, rE4] 4 ⟨#[103, 114, 97, 110, 116, 115]⟩ (ruleV 121) (by kernel_rfl)
  have h5 := run_newKey Tryz.underlying133 Tryz.underlying9 w #[rE1, rE2, rE3, rE4, rE5] 5 ⟨#[115, 99, 111, 112, 101]⟩ (ruleV 122) (by kernel_rfl)
  simp only [List.push_toArray, List.nil_append, List.cons_append, Nat.reduceAdd] at h0 h1 h2 h3 h4 h5
  have hm : (Instr.makeMap 133 none).run Tryz.prog w = .ok (.map (some w.heap.size)) (w.alloc (.map #[] 0)) := run_makeMap ..
  go_enter Tryz.func83, Tryz.ntmps83
  go_wp2
  go_ret
  exact ⟨rfl, rfl⟩
end Go.Proofs.YtmimipgmhgalaaaGreatDoor.PAll
namespace Go.Proofs.YtmimipgmhgalaaaGreatDoor.PAll
open Go.RowKit Go.Proofs.YtmimipgmhgalaaaGreatDoorW.PrintWords
set_option linter.unusedVariables false
/-- A client's cells. -/
abbrev clCells (i s : ByteArray) (gr : Int) (pg : Bool) (u : ByteArray) (sv : Value) : Array Value := #[.string i, .string s, .int .i64 gr, .bool pg, .string u, sv]
/-- A block holds a client; it lies above w0's blocks, and these stand. -/
structure Cl (w0 w : World) (g : Nat) (i s : ByteArray) (gr : Int) (pg : Bool) (u : ByteArray) (sv : Value) : Prop where
  b : w.heap[g]? = some (.cells (clCells i s gr pg u sv) 40 (0, 0))
  o : Below w0.heap.size w0 w
  g : w0.heap.size ≤ g
section
variable {w0 w : World} {g : Nat} {i s : ByteArray} {gr : Int} {pg : Bool} {u : ByteArray} {sv : Value} (h : Cl w0 w g i s gr pg u sv)
include h
theorem Cl.c0 : w.cell? ⟨g, 0, none⟩ = some (.string i) := by rw [blk_cell h.b]; rfl
theorem Cl.c1 : w.cell? ⟨g, 1, none⟩ = some (.string s) := by rw [blk_cell h.b]; rfl
theorem Cl.c2 : w.cell? ⟨g, 2, none⟩ = some (.int .i64 gr) := by rw [blk_cell h.b]; rfl
theorem Cl.c3 : w.cell? ⟨g, 3, none⟩ = some (.bool pg) := by rw [blk_cell h.b]; rfl
theorem Cl.c4 : w.cell? ⟨g, 4, none⟩ = some (.string u) := by rw [blk_cell h.b]; rfl
theorem Cl.c5 : w.cell? ⟨g, 5, none⟩ = some sv := by rw [blk_cell h.b]; rfl
theorem Cl.drewN (n : Nat) : Cl w0 (w.drewN n) g i s gr pg u sv := ⟨h.b, pw_below_drewN h.o n, h.g⟩
theorem Cl.set0 (x : ByteArray) : Cl w0 (w.setCell ⟨g, 0, none⟩ (.string x)) g x s gr pg u sv := ⟨blk_set h.b 0 _, below_set h.o h.g, h.g⟩
theorem Cl.set1 (x : ByteArray) : Cl w0 (w.setCell ⟨g, 1, none⟩ (.string x)) g i x gr pg u sv := ⟨blk_set h.b 1 _, below_set h.o h.g, h.g⟩
theorem Cl.set2 (x : Int) : Cl w0 (w.setCell ⟨g, 2, none⟩ (.int .i64 x)) g i s x pg u sv := ⟨blk_set h.b 2 _, below_set h.o h.g, h.g⟩
theorem Cl.set3 (x : Bool) : Cl w0 (w.setCell ⟨g, 3, none⟩ (.bool x)) g i s gr x u sv := ⟨blk_set h.b 3 _, below_set h.o h.g, h.g⟩
theorem Cl.set4 (x : ByteArray) : Cl w0 (w.setCell ⟨g, 4, none⟩ (.string x)) g i s gr pg x sv := ⟨blk_set h.b 4 _, below_set h.o h.g, h.g⟩
theorem Cl.set5 (x : Value) : Cl w0 (w.setCell ⟨g, 5, none⟩ x) g i s gr pg u x := ⟨blk_set h.b 5 _, below_set h.o h.g, h.g⟩
theorem Cl.step {w' : World} (hb : Below w.heap.size w w') : Cl w0 w' g i s gr pg u sv := ⟨blk_below h.b hb, h.o.trans (hb.mono h.o.size), h.g⟩
end
set_option maxHeartbeats 1000000 in
theorem take_id (g : Nat) (i s : ByteArray) (gr : Int) (pg : Bool) (u : ByteArray) (sv : Value) (v : ByteArray) (w0 w : World) (h : Cl w0 w g i s gr pg u sv) :
    Calls Tryz.prog 117 #[.pointer (some ⟨g, 0, none⟩), .string v] w fun e w' => e = .returned (.bool true) ∧ Cl w0 w' g v s gr pg u sv ∧ KeepBut w w' g none := by
  have hc := h.c0
  have hf := blk_frozen h.b 0
  go_enter Tryz.func117, Tryz.ntmps117
  go_wp2
  go_ret
  exact ⟨rfl, h.set0 v, (KeepBut.refl w g none).set_ 0 _⟩
set_option maxHeartbeats 1000000 in
theorem take_secret (g : Nat) (i s : ByteArray) (gr : Int) (pg : Bool) (u : ByteArray) (sv : Value) (v : ByteArray) (w0 w : World) (h : Cl w0 w g i s gr pg u sv) :
    Calls Tryz.prog 118 #[.pointer (some ⟨g, 0, none⟩), .string v] w fun e w' => e = .returned (.bool true) ∧ Cl w0 w' g i v gr pg u sv ∧ KeepBut w w' g none := by
  have hc := h.c1
  have hf := blk_frozen h.b 1
  go_enter Tryz.func118, Tryz.ntmps118
  go_wp2
  go_ret
  exact ⟨rfl, h.set1 v, (KeepBut.refl w g none).set_ 1 _⟩
set_option maxHeartbeats 1000000 in
theorem take_url (g : Nat) (i s : ByteArray) (gr : Int) (pg : Bool) (u : ByteArray) (sv : Value) (v : ByteArray) (w0 w : World) (h : Cl w0 w g i s gr pg u sv) :
    Calls Tryz.prog 119 #[.pointer (some ⟨g, 0, none⟩), .string v] w fun e w' => e = .returned (.bool true) ∧ Cl w0 w' g i s gr pg v sv ∧ KeepBut w w' g none := by
  have hc := h.c4
  have hf := blk_frozen h.b 4
  go_enter Tryz.func119, Tryz.ntmps119
  go_wp2
  go_ret
  exact ⟨rfl, h.set4 v, (KeepBut.refl w g none).set_ 4 _⟩
set_option maxHeartbeats 1000000 in
theorem take_ping (g : Nat) (i s : ByteArray) (gr : Int) (pg : Bool) (u : ByteArray) (sv : Value) (v : ByteArray) (w0 w : World) (h : Cl w0 w g i s gr pg u sv) :
    Calls Tryz.prog 120 #[.pointer (some ⟨g, 0, none⟩), .string v] w fun e w' => e = .returned (.bool (v.toList == [] || v.toList == [121, 101, 115])) ∧ Cl w0 w' g i s gr (v.toList != []) u sv ∧ KeepBut w w' g none := by
  have hc := h.c3
  have hf := blk_frozen h.b 3
  by_cases h1 : v.toList = []
  · go_enter Tryz.func120, Tryz.ntmps120
    go_wp2
    go_ret
    exact ⟨by rw [h1]; rfl, by rw [h1]; exact h.set3 _, (KeepBut.refl w g none).set_ 3 _⟩
  · have e1 : (v.toList != []) = !v.toList.isEmpty := by cases v.toList <;> rfl
    have e2 : (v.toList == []) = v.toList.isEmpty := by cases v.toList <;> rfl
    go_enter Tryz.func120, Tryz.ntmps120
    go_wp2
    go_ret
    exact ⟨by rw [e2]; rfl, by rw [e1]; exact h.set3 _, (KeepBut.refl w g none).set_ 3 _⟩
/-- A row of the call's own lies above. -/
theorem R_above {w : World} {base : Nat} {v : Value} {l : List ByteArray} (h : Kd.R Kd.string 9 w base (fun _ => True) v l) : Kd.R Kd.string 9 w base (fun k => base ≤ k) v l := Kd.R_mono (Kd.R_bound h) (fun k hk => hk.2.1)
theorem R_any {w : World} {base : Nat} {P : Nat → Prop} {v : Value} {l : List ByteArray} (h : Kd.R Kd.string 9 w base P v l) : Kd.R Kd.string 9 w base (fun _ => True) v l := Kd.R_mono h (fun _ _ => trivial)
set_option maxHeartbeats 1000000 in
theorem take_scope (k : Nat) (g : Nat) (i s : ByteArray) (gr : Int) (pg : Bool) (u : ByteArray) (sv : Value) (v : ByteArray) (r1 : List ByteArray) (r2 : Int) (hf : urlform_Scopes.f k v = some (r1, r2)) (w0 w : World) (h : Cl w0 w g i s gr pg u sv) :
    Calls Tryz.prog 122 #[.pointer (some ⟨g, 0, none⟩), .string v] w fun e w' => e = .returned (.bool (r2 == 0)) ∧ ∃ sv', Cl w0 w' g i s gr pg u sv' ∧ Kd.R Kd.string 9 w' w.heap.size (fun _ => True) sv' r1 ∧ KeepBut w w' g none := by
  go_enter Tryz.func122, Tryz.ntmps122
  go_wp2_with (go_at_call 54; refine (urlform_Scopes.calls k v r1 r2 _ hf).mono ?_; rintro e w1 ⟨v0, rfl, ho, hb⟩; have h1 := h.step hb; have hc := h1.c5; have hfz := blk_frozen h1.b 5; have hkb := KeepBut.of_below hb g none; obtain ⟨Ao, co, rfl⟩ := Kd.R_slice ho)
  go_ret
  refine ⟨rfl, _, h1.set5 _, R_any (Kd.R_far (R_above ho) (fun k hk => ?_) _), hkb.set_ 5 _⟩
  have := blk_lt h.b
  exact fun e => by have e' : k = g := e; omega
/-- A list of grants: the grants, and whether each is known. -/
def grantsL : List ByteArray → Int → Int × Bool
  | [], gr => (gr, true)
  | x :: r, gr => if x.toList = [100, 101, 118, 105, 99, 101] then grantsL r (Go.bits .or .i64 gr 1) else if x.toList = [99, 105, 98, 97] then grantsL r (Go.bits .or .i64 gr 2) else (gr, false)
theorem grantsL_drop (l : List ByteArray) (j : Nat) (h : j < l.length) (gr : Int) : grantsL (l.drop j) gr = if l[j].toList = [100, 101, 118, 105, 99, 101] then grantsL (l.drop (j + 1)) (Go.bits .or .i64 gr 1) else if l[j].toList = [99, 105, 98, 97] then grantsL (l.drop (j + 1)) (Go.bits .or .i64 gr 2) else (gr, false) := by
  rw [List.drop_eq_getElem_cons h]; rfl
set_option maxHeartbeats 4000000 in
set_option maxRecDepth 100000 in
theorem take_grants (k : Nat) (g : Nat) (i s : ByteArray) (gr : Int) (pg : Bool) (u : ByteArray) (sv : Value) (v : ByteArray) (r1 : List ByteArray) (r2 : Int) (hf : urlform_Scopes.f k v = some (r1, r2)) (w0 w : World) (h : Cl w0 w g i s gr pg u sv) :
    Calls Tryz.prog 121 #[.pointer (some ⟨g, 0, none⟩), .string v] w fun e w' => e = .returned (.bool ((grantsL r1 gr).2 && r2 == 0)) ∧ Cl w0 w' g i s (grantsL r1 gr).1 pg u sv ∧ KeepBut w w' g none := by
  have hgw := blk_lt h.b
  go_enter Tryz.func121, Tryz.ntmps121
  go_wp2_with (go_at_call 54; refine (urlform_Scopes.calls k v r1 r2 _ hf).mono ?_; rintro e w1 ⟨v0, rfl, ho, hb⟩; have h1 := h.step hb; have hkb := KeepBut.of_below hb g none; obtain ⟨Ao, co, rfl⟩ := Kd.R_slice ho; have hR := R_above ho; clear ho hb)
  go_loopw [16] (fun v16 wr => ∃ (j : Nat) (gr' : Int), v16 = .int .i64 (j : Int) ∧ j ≤ r1.length ∧ Cl w0 wr g i s gr' pg u sv ∧ Kd.R Kd.string 9 wr w.heap.size (fun k => w.heap.size ≤ k) (.slice Ao r1.length co) r1 ∧ KeepBut w wr g none ∧ grantsL (r1.drop j) gr' = grantsL r1 gr) (fun v16 _ => r1.length - (intOf v16).toNat)
  case atStart => exact ⟨0, gr, rfl, Nat.zero_le _, h1, hR, hkb, rfl⟩
  case round =>
    obtain ⟨j, gr', rfl, hj, hC, hR', hK, hG⟩ := hrel
    clear h1 hR hkb
    have hlen : r1.length ≤ 9223372036854775807 := (Kd.R_reads' hR').2.2.2.1
    by_cases hlt : j < r1.length
    · rw [grantsL_drop r1 j hlt] at hG
      have HG := Lib.hid hG
      clear hG
      obtain ⟨ad, hA, hcell⟩ := ReadsOf.at_ (Kd.reads_of_C (enc := Value.string) (d := ByteArray.empty) (h1 := fun _ => rfl) (Kd.R_reads' hR').2.2) (j : Int) (by omega) (by omega)
      subst hA
      have hrd : rdOf ByteArray.empty r1 (j : Int) = r1[j] := by simp [rdOf, hlt]
      rw [hrd] at hcell
      simp only [Int.toNat_natCast] at hcell
      have c2 := hC.c2
      have f2 := blk_frozen hC.b 2
      have hC1 := hC.set2 (Go.bits .or .i64 gr' 1)
      have hC2 := hC.set2 (Go.bits .or .i64 gr' 2)
      have hRs := fun x : Value => Kd.R_far hR' (p := ⟨g, 2, none⟩) (fun k hk => by exact fun e => by have e' : k = g := e; omega) x
      by_cases hd : r1[j].toList = [100, 101, 118, 105, 99, 101]
      · go_wp2
        exact ⟨⟨j + 1, _, rfl, by omega, hC1, hRs _, hK.set_ 2 _, by rw [← HG.out, if_pos hd]⟩, by simp [intOf]; omega⟩
      · by_cases hd2 : r1[j].toList = [99, 105, 98, 97]
        · go_wp2
          exact ⟨⟨j + 1, _, rfl, by omega, hC2, hRs _, hK.set_ 2 _, by rw [← HG.out, if_neg hd, if_pos hd2]⟩, by simp [intOf]; omega⟩
        · have e : grantsL r1 gr = (gr', false) := by rw [← HG.out, if_neg hd, if_neg hd2]
          have hb1 : (r1[j].toList == [100, 101, 118, 105, 99, 101]) = false := beq_eq_false_iff_ne.2 hd
          have hb2 : (r1[j].toList == [99, 105, 98, 97]) = false := beq_eq_false_iff_ne.2 hd2
          go_wp2
          go_ret
          rw [e]
          exact ⟨rfl, hC, hK⟩
    · have hge : decide (j < r1.length) = false := decide_eq_false hlt
      have e : grantsL r1 gr = (gr', true) := by rw [← hG, List.drop_eq_nil_of_le (by omega)]; rfl
      go_wp2
      go_ret
      rw [e]
      exact ⟨rfl, hC, hK⟩
end Go.Proofs.YtmimipgmhgalaaaGreatDoor.PAll
namespace Go.Proofs.YtmimipgmhgalaaaGreatDoor.PAll
open Go.RowKit Go.Proofs.YtmimipgmhgalaaaGreatDoorW.PrintWords
set_option linter.unusedVariables false
set_option maxHeartbeats 1000000 in
theorem twice_one (a b name value : ByteArray) (pb : Nat) (w : World) (hb : w.heap[pb]? = some (.cells #[.string name, .string value] 68 (0, 0))) :
    Calls Tryz.prog 85 (#[.agg #[.string a, .string b]] ++ #[.pointer (some ⟨pb, 0, none⟩)]) w fun e w' => e = .returned (.bool (a.toList == name.toList)) ∧ Below w.heap.size w w' := by
  have hc : w.cell? ⟨pb, 0, none⟩ = some (.string name) := by rw [blk_cell hb]; rfl
  have hlt := blk_lt hb
  have hB := Below.refl w.heap.size w
  go_enter Tryz.func85, Tryz.ntmps85
  go_wp2
  go_ret
  exact ⟨rfl, hB.alloc (Nat.le_refl _) _⟩
theorem C_take {w : World} {A : Option Addr} {l : List S68} (h : Kd.C k68 w A l.length l) (i : Nat) (hi : i ≤ l.length) : Kd.C k68 w A (l.take i).length (l.take i) := by
  have hl : (l.take i).length = i := by rw [List.length_take]; omega
  refine ⟨rfl, by rw [hl]; exact Nat.le_trans hi h.2.1, fun h0 => ?_⟩
  obtain ⟨ad, e, hc⟩ := h.2.2 (by omega)
  refine ⟨ad, e, fun j p hj => hc j p ?_⟩
  have hji : j < i := by rw [← hl]; exact (List.getElem?_eq_some_iff.1 hj).1
  rw [List.getElem?_take_of_lt hji] at hj
  exact hj
def namedF (name : ByteArray) (q : S68) : Bool := q.f0.toList == name.toList
/-- The first place of a pair with that name, or -1. -/
def placeL (name : ByteArray) : List S68 → Nat → Int
  | [], _ => -1
  | q :: r, i => if namedF name q = true then (i : Int) else placeL name r (i + 1)
theorem placeL_cons (name : ByteArray) (q : S68) (r : List S68) (i : Nat) : placeL name (q :: r) i = if (q.f0.toList == name.toList) = true then (i : Int) else placeL name r (i + 1) := rfl
theorem placeL_any (name : ByteArray) : ∀ (l : List S68) (i : Nat), decide (placeL name l i ≥ 0) = l.any (namedF name)
  | [], i => rfl
  | q :: r, i => by
    unfold placeL
    rw [List.any_cons]
    cases h : namedF name q with
    | true => rw [if_pos rfl, Bool.true_or]; exact decide_eq_true (by omega)
    | false => rw [if_neg (by simp), Bool.false_or]; exact placeL_any name r (i + 1)
set_option maxHeartbeats 4000000 in
set_option maxRecDepth 100000 in
theorem index_twice (A0 : Option Addr) (c0 : Nat) (l0 : List S68) (name value : ByteArray) (pb : Nat) (w : World) (hr0 : Kd.C k68 w A0 l0.length l0) (hb : w.heap[pb]? = some (.cells #[.string name, .string value] 68 (0, 0))) :
    Calls Tryz.prog 113 #[.slice A0 l0.length c0, .func (.func 85) #[] #[.pointer (some ⟨pb, 0, none⟩)]] w fun e w' => e = .returned (.int .i64 (placeL name l0 0)) ∧ Below w.heap.size w w' := by
  have e85 : ∀ args w, (callFunc 85 args).run Tryz.prog w = .ok (.enter 85 args) w := enters_of Tryz.func85 (by kernel_rfl) rfl
  have HR := Lib.hid hr0
  have hm := hr0.2.1
  clear hr0
  obtain ⟨G, hG0⟩ : ∃ G, placeL name l0 0 = G := ⟨_, rfl⟩
  rw [hG0]
  go_enter Tryz.func113, Tryz.ntmps113
  go_wp2
  go_loopw [8] (fun v8 wr => ∃ j : Nat, j ≤ l0.length ∧ v8 = .int .i64 (j : Int) ∧ Below w.heap.size w wr ∧ placeL name (l0.drop j) j = G) (fun v8 _ => l0.length - (intOf v8).toNat)
  case atStart => exact ⟨0, Nat.zero_le _, rfl, Below.refl _ _, hG0⟩
  case round =>
    obtain ⟨j, hj, rfl, hB, hG⟩ := hrel
    by_cases hlt : j < l0.length
    · have hbr := blk_below hb hB
      obtain ⟨ad, hA, hx0, hx1⟩ := at_T68 (Kd.C_below HR.out hB) (j : Int) (by omega) (by omega)
      subst hA
      have hp : rd_T68 l0 (j : Int) = l0[j] := by simp [rd_T68, hlt]
      rw [hp] at hx0 hx1
      rw [List.drop_eq_getElem_cons hlt] at hG
      simp only [Int.toNat_natCast] at hx0 hx1
      clear hp
      generalize hpk : l0[j] = p at *
      have hcall := twice_one p.f0 p.f1 name value pb wr hbr
      rw [placeL_cons] at hG
      obtain ⟨r, hr⟩ : ∃ r, (p.f0.toList == name.toList) = r := ⟨_, rfl⟩
      rw [hr] at hG hcall
      cases r with
      | true =>
        rw [if_pos rfl] at hG
        have HG := Lib.hid hG
        clear hG
        go_wp2_with (go_at_fn 85; refine hcall.mono ?_; rintro e w1 ⟨rfl, hb1⟩)
        go_ret
        exact ⟨by rw [← HG.out]; rfl, hB.trans (hb1.mono hB.size)⟩
      | false =>
        rw [if_neg (by simp)] at hG
        have HG := Lib.hid hG
        clear hG
        go_wp2_with (go_at_fn 85; refine hcall.mono ?_; rintro e w1 ⟨rfl, hb1⟩)
        exact ⟨⟨j + 1, by omega, rfl, hB.trans (hb1.mono hB.size), HG.out⟩, by simp [intOf]; omega⟩
    · have hge : decide (j < l0.length) = false := decide_eq_false hlt
      rw [List.drop_eq_nil_of_le (by omega)] at hG
      have HG := Lib.hid hG
      clear hG
      go_wp2
      go_ret
      exact ⟨by rw [← HG.out]; rfl, hB⟩
set_option maxHeartbeats 1000000 in
/-- slices.ContainsFunc at the pairs ahead. -/
theorem all_twice (A0 : Option Addr) (c0 : Nat) (l0 : List S68) (name value : ByteArray) (pb : Nat) (w : World) (hr0 : Kd.C k68 w A0 l0.length l0) (hb : w.heap[pb]? = some (.cells #[.string name, .string value] 68 (0, 0))) :
    Calls Tryz.prog 84 #[.slice A0 l0.length c0, .func (.func 85) #[] #[.pointer (some ⟨pb, 0, none⟩)]] w fun e w' => e = .returned (.bool (l0.any (namedF name))) ∧ Below w.heap.size w w' := by
  rw [← placeL_any name l0 0]
  have hcall := index_twice A0 c0 l0 name value pb w hr0 hb
  go_enter Tryz.func84, Tryz.ntmps84
  go_wp2_with (go_at_call 113; refine hcall.mono ?_; rintro e w1 ⟨rfl, hb1⟩)
  go_ret
  exact ⟨rfl, hb1⟩
end Go.Proofs.YtmimipgmhgalaaaGreatDoor.PAll
