/-
  wicketlaw11.spoil: lists of scopes are written over and grown: what the call turns is the row that it is given and what the row leads to, alone; walked.
-/
import Derived.Test.YtmimipgmhgalaaaGreatDoorPAllx0
import Derived.Lib.Hide
import Derived.Outline
namespace Go.Proofs.YtmimipgmhgalaaaGreatDoor.PAll
open Go.RowKit Go.Proofs.YtmimipgmhgalaaaGreatDoorW.PrintWords
set_option linter.unusedVariables false
set_option linter.unusedSimpArgs false
theorem kept_grown {w wr w1 : World} {P ok : Nat → Prop} {row : Option Nat} (h : Kept w wr P) (hg : wr.grownBy w1 row) (hr : ∀ k, row = some k → ok k) (hok : ∀ k, ok k → k < w.heap.size → P k) : Kept w w1 P :=
  ⟨Nat.le_trans h.1 hg.size, fun i hi hp => (hg.block i (Nat.lt_of_lt_of_le hi h.1) (fun e => hp (hok i (hr i e.symm) hi))).trans (h.2 i hi hp)⟩
theorem lim_getD {ys : List S40} (h : ∀ x ∈ ys, x.f5.length ≤ 4000000000000) (i : Nat) : (ys.getD i z40).f5.length ≤ 4000000000000 := by
  rw [List.getD_eq_getElem?_getD]
  by_cases hi : i < ys.length
  · rw [List.getElem?_eq_getElem hi]; exact h _ (List.getElem_mem hi)
  · rw [List.getElem?_eq_none (by omega)]; simp [z40]
/-- What stands while the row is gone through. -/
structure SpI (i0 : Nat) (P ok : Nat → Prop) (w0 w wr : World) (g n cap : Nat) (ys : List S40) : Prop where
  len : ys.length = n
  lim : ∀ q, i0 ≤ q → (ys.getD q z40).f5.length ≤ 4000000000000
  s : Kd.S k40 40 wr w0.heap.size ok (.slice (some ⟨g, 0, none⟩) n cap) ys
  k : Kept w wr P
  b : Below w0.heap.size w0 wr
section
variable {i0 : Nat} {P ok : Nat → Prop} {w0 w wr : World} {g n cap : Nat} {ys : List S40}
theorem SpI.len' (h : SpI i0 P ok w0 w wr g n cap ys) : n ≤ 9223372036854775807 := by
  have := (Kd.R_reads' (Kd.S_R h.s)).2.2.2.1
  rw [h.len] at this; exact this
end
/-- What stands while an element's list grows. -/
structure SpJ (P okj : Nat → Prop) (w0 w wr ws : World) (g n cap j k : Nat) (ys : List S40) (u : Value) (ls : List ByteArray) (c : List Value) : Prop where
  r : Kd.R Kd.string 9 ws w0.heap.size okj u ls
  h : Kd.H k40 40 ws w0.heap.size (fun k => P k ∨ w.heap.size ≤ k) (.slice (some ⟨g, 0, none⟩) n cap) ys (j : Int) okj c
  kp : Kept w ws P
  b : Below w0.heap.size w0 ws
  l : ls.length ≤ 4000000000000 + k
  o : ∀ q, okj q → P q ∨ w.heap.size ≤ q
  f : ∀ q, ws.heap.size ≤ q → okj q
theorem SpJ.grow {P okj : Nat → Prop} {w0 w wr ws w1 : World} {g n cap j k : Nat} {ys : List S40} {u u1 : Value} {ls : List ByteArray} {c : List Value} (h : SpJ P okj w0 w wr ws g n cap j k ys u ls c)
    (ho : Kd.R Kd.string 9 w1 w0.heap.size okj u1 (ls ++ [⟨#[63, 63]⟩])) (hb : Below w0.heap.size w0 w1) (hg : ws.grownBy w1 u.ownBlock) : SpJ P okj w0 w wr w1 g n cap j (k + 1) ys u1 (ls ++ [⟨#[63, 63]⟩]) c :=
  ⟨ho, Kd.H_grown h.h hg (fun q hq => h.r.1 q hq), kept_grown h.kp hg (fun q hq => h.o q (h.r.1 q hq)) (fun q hq hlt => hq.elim id (fun h2 => by omega)), hb, by have := h.l; rw [List.length_append]; simp; omega, h.o, fun q hq => h.f q (Nat.le_trans hg.size hq)⟩
theorem SpJ.cells {P okj : Nat → Prop} {w0 w wr ws : World} {g n cap j k : Nat} {ys : List S40} {u : Value} {ls : List ByteArray} {c : List Value} (h : SpJ P okj w0 w wr ws g n cap j k ys u ls c) (hj : j < n) :
    (∀ q x, c[q]? = some x → ws.cell? ⟨g, j * 6 + q, none⟩ = some x) ∧ ∀ q, ws.frozen? ⟨g, q, none⟩ = false := by
  obtain ⟨rows, _, hraw, _, _, hcc, _⟩ := Kd.H_raw h.h (by omega) (by omega)
  refine ⟨fun q x hx => by have := hcc q x hx; rwa [Int.toNat_natCast] at this, fun q => ?_⟩
  obtain ⟨cells, hc⟩ := Kd.R_typed hraw g (by simp [Value.ownBlock])
  exact blk_frozen hc q
theorem SpJ.back {P okj : Nat → Prop} {w0 w wr ws : World} {g n cap j k : Nat} {ys : List S40} {u : Value} {ls : List ByteArray} {c : List Value} (h : SpJ P okj w0 w wr ws g n cap j k ys u ls c) (hj : j < n) (hc : c.length = 6) (hk : k ≤ 16) (hg : w0.heap.size ≤ g) (hgp : P g ∨ w.heap.size ≤ g) (hu : u.oneCell' = true) (hl : ys.length = n) (hx : ∀ q, j ≤ q → (ys.getD q z40).f5.length ≤ 4000000000000) :
    SpI (j + 1) P (fun k => P k ∨ w.heap.size ≤ k) w0 w (ws.setCells g (j * 6) [.string ⟨#[63]⟩, .string ⟨#[]⟩, .int .i64 0, .bool false, .string ⟨#[]⟩, u]) g n cap (ys.set j ⟨⟨#[63]⟩, ⟨#[]⟩, 0, false, ⟨#[]⟩, ls⟩) := by
  obtain ⟨h2, h3⟩ := Kd.H_seg h.h (by omega) (by omega) (seg := [.string ⟨#[63]⟩, .string ⟨#[]⟩, .int .i64 0, .bool false, .string ⟨#[]⟩, u]) (j := 0) (by show 0 + 6 ≤ 6; omega) (by intro q hq; simp only [List.mem_cons, List.not_mem_nil, or_false] at hq; rcases hq with rfl | rfl | rfl | rfl | rfl | rfl <;> first | rfl | exact hu)
  rw [Int.toNat_natCast, Nat.add_zero, show j * k40.sz = j * 6 from rfl] at h2 h3
  have hng : ∀ q, okj q → q ≠ g := by
    intro q hq he
    subst he
    obtain ⟨_, f, hR⟩ := h.h
    exact (hR.1 q (by simp [Value.ownBlock])).2 hq
  have hr2 : Kd.R Kd.string 9 (ws.setCells g (j * 6) [.string ⟨#[63]⟩, .string ⟨#[]⟩, .int .i64 0, .bool false, .string ⟨#[]⟩, u]) w0.heap.size okj u ls := Kd.R_step h.r (fun q hq hlt => h3.block q hlt (fun e => hng q hq (by injection e)))
  have h4 := Kd.H_back (x' := ⟨⟨#[63]⟩, ⟨#[]⟩, 0, false, ⟨#[]⟩, ls⟩) (okp := okj) h2 (by
    rw [show (c.take 0 ++ [Value.string ⟨#[63]⟩, .string ⟨#[]⟩, .int .i64 0, .bool false, .string ⟨#[]⟩, u] ++ c.drop (0 + [Value.string ⟨#[63]⟩, .string ⟨#[]⟩, .int .i64 0, .bool false, .string ⟨#[]⟩, u].length)) = [Value.string ⟨#[63]⟩, .string ⟨#[]⟩, .int .i64 0, .bool false, .string ⟨#[]⟩, u] from by
      rw [List.drop_eq_nil_of_le (by rw [hc]; simp)]; rfl]
    exact k40_mkM _ _ _ ⟨⟨#[63]⟩, ⟨#[]⟩, 0, false, ⟨#[]⟩, ls⟩ hr2) (fun _ hq => hq)
  rw [Int.toNat_natCast] at h4
  refine ⟨by rw [List.length_set]; exact hl, fun q hq => ?_, h4, kept_grown (ok := fun k => P k ∨ w.heap.size ≤ k) h.kp h3 (fun k hk => by cases hk; exact hgp) (fun q hq hlt => hq.elim id (fun h2 => by omega)), h.b.grown h3 h.b.size (fun k hk => by cases hk; exact hg)⟩
  rw [List.getD_eq_getElem?_getD, List.getElem?_set_ne (by omega), ← List.getD_eq_getElem?_getD]
  exact hx q (by omega)
theorem spi_put {P : Nat → Prop} {w0 w wr w1 : World} {g n cap i k g5 : Nat} {ys : List S40} {x' : S40} (h : SpI 0 P P w0 w wr g n cap ys)
    (hS : Kd.S k40 40 w1 w0.heap.size P (.slice (some ⟨g, 0, none⟩) n cap) (ys.set i x')) (hg : wr.grownBy w1 (some g5)) (hp : P g5) (hb : w0.heap.size ≤ g5) (hx : x'.f5.length = (ys.getD i z40).f5.length) : SpI 0 P P w0 w w1 g n cap (ys.set i x') := by
  refine ⟨by rw [List.length_set]; exact h.len, fun q hq => ?_, hS, kept_grown h.k hg (fun k hk => by cases hk; exact hp) (fun _ hk _ => hk), ?_⟩
  · by_cases e : q = i
    · subst e
      by_cases hi : q < ys.length
      · rw [List.getD_eq_getElem?_getD, List.getElem?_set_self hi]
        show x'.f5.length ≤ _
        rw [hx]; exact h.lim q hq
      · rw [List.getD_eq_getElem?_getD, List.getElem?_eq_none (by rw [List.length_set]; omega)]
        simp [z40]
    · rw [List.getD_eq_getElem?_getD, List.getElem?_set_ne (Ne.symm e), ← List.getD_eq_getElem?_getD]
      exact h.lim q hq
  · exact h.b.grown hg h.b.size (fun k hk => by cases hk; exact hb)
set_option maxHeartbeats 4000000 in
set_option maxRecDepth 100000 in
theorem wicketlaw11_spoil.calls (P : Nat → Prop) (v : Value) (xs : List S40) (w0 w : World) (hL : ∀ x ∈ xs, x.f5.length ≤ 4000000000000) (hB : Below w0.heap.size w0 w) (hS : Kd.S k40 40 w w0.heap.size P v xs) :
    Calls Tryz.prog 28 #[v] w fun e w' => e = .returned (.tuple #[]) ∧ Below w0.heap.size w0 w' ∧ Kept w w' P := by
  by_cases h0 : xs = []
  · subst h0
    obtain ⟨A, c, rfl⟩ := Kd.S_slice hS
    have HB := Lib.hid hB
    clear hB hS
    go_enter Tryz.func28, Tryz.ntmps28
    go_wp2
    refine wp_loop_rounds 1 ?_
    rw [rounds_succ]
    go_wp2
    refine wp_loop_rounds 1 ?_
    rw [rounds_succ]
    go_wp2
    go_end0
    exact ⟨rfl, HB.out, Nat.le_refl _, fun _ _ _ => rfl⟩
  · obtain ⟨g, cap, rfl, hg, _⟩ := Kd.S_form hS (List.length_pos_iff.2 h0)
    obtain ⟨n, hn⟩ : ∃ n, xs.length = n := ⟨_, rfl⟩
    rw [hn] at hS
    have hI : SpI 0 P P w0 w w g n cap xs := ⟨hn, fun q _ => lim_getD hL q, hS, ⟨Nat.le_refl _, fun _ _ _ => rfl⟩, hB⟩
    have hnm := hI.len'
    have HG := Lib.hid (show P g from (Kd.S_R hS).1 g (by simp [Value.ownBlock]))
    rw [hn]
    clear hS hB h0 hn hL
    go_enter Tryz.func28, Tryz.ntmps28
    go_wp2
    go_loopw [2, 3] (fun v2 _ wr => ∃ (i : Nat) (ys : List S40), i ≤ n ∧ v2 = .int .i64 (i : Int) ∧ SpI 0 P P w0 w wr g n cap ys) (fun v2 _ _ => n - (intOf v2).toNat)
    case atStart => exact ⟨0, xs, Nat.zero_le _, rfl, hI⟩
    case round =>
      clear hI
      obtain ⟨i, ys, hi, rfl, hI⟩ := hrel
      by_cases hlt : i < n
      · obtain ⟨m, hm⟩ : ∃ m, (ys.getD i z40).f5.length = m := ⟨_, rfl⟩
        go_wp2
        go_loopw [3] (fun v3 ws => ∃ (k : Nat) (zs : List S40), k ≤ m ∧ v3 = .int .i64 (k : Int) ∧ (zs.getD i z40).f5.length = m ∧ SpI 0 P P w0 w ws g n cap zs) (fun v3 _ => m - (intOf v3).toNat)
        case atStart => exact ⟨0, ys, Nat.zero_le _, rfl, hm, hI⟩
        case round =>
          clear hI hm
          obtain ⟨k, zs, hk, rfl, hm, hI⟩ := hrel
          obtain ⟨oki, c, hcl, hM, hcc, hoki, hback⟩ := Kd.S_borrow hI.s z40 (i : Int) (by omega) (by omega)
          obtain ⟨v5, rfl, hR⟩ := k40_openM hM
          simp only [Int.toNat_natCast] at hM hcc hR hback
          have c5 := hcc 5 v5 rfl
          rw [add_plain, show i * k40.sz + 5 = i * 6 + 5 from rfl] at c5
          obtain ⟨A5, cap5, rfl⟩ := Kd.R_slice hR
          have hml : m ≤ 4000000000000 := by rw [← hm]; exact hI.lim i (Nat.zero_le _)
          by_cases hkt : k < m
          · obtain ⟨g5, cap5', hv, hg5, hlt5, cells5, hc5⟩ := Kd.R_form hR (by omega)
            injection hv with hA _ hcap
            subst hA hcap
            have hcell := (Kd.R_celln ByteArray.empty hR (k : Int) (by omega) (by omega)).1
            have hfz := (Kd.R_celln ByteArray.empty hR (k : Int) (by omega) (by omega)).2
            have hput := Kd.R_put hR (k : Int) ⟨#[63]⟩
            have hrow := hR.1
            rw [hm] at c5 hR
            simp only [Int.toNat_natCast] at hcell hfz hput
            have hp5 : P g5 ∧ some g5 ≠ (Value.slice (some ⟨g, 0, none⟩) n cap).ownBlock := hoki g5 (hrow g5 rfl)
            have hnew := hback hput.2 (fun q hq => by cases hq; exact hrow g5 rfl) (k40_mkM _ _ _ { zs.getD i z40 with f5 := (zs.getD i z40).f5.set k ⟨#[63]⟩ } hput.1)
            have hnext := spi_put (k := k) hI hnew hput.2 hp5.1 hg5 (by simp)
            have hm' : ((zs.set i { zs.getD i z40 with f5 := (zs.getD i z40).f5.set k ⟨#[63]⟩ }).getD i z40).f5.length = m := by
              rw [List.getD_eq_getElem?_getD, List.getElem?_set_self (by rw [hI.len]; exact hlt)]
              simpa using hm
            generalize zs.set i { zs.getD i z40 with f5 := (zs.getD i z40).f5.set k ⟨#[63]⟩ } = zs' at hnext hm'
            have H1 := Lib.hid hnext; have H2 := Lib.hid hm'
            clear hI hM hback hput hm hoki hrow hR hcc hcl hg5 hlt5 hc5 hnew hnext hm' hp5
            go_wp2
            exact ⟨⟨k + 1, zs', by omega, rfl, H2.out, H1.out⟩, by simp [intOf]; omega⟩
          · have hge : decide (k < m) = false := decide_eq_false hkt
            rw [hm] at c5
            have H1 := Lib.hid hI
            clear hI hM hback hm hoki hR hcc hcl
            go_wp2
            exact ⟨⟨i + 1, zs, by omega, rfl, H1.out⟩, by simp [intOf]; omega⟩
      · have hge : decide (i < n) = false := decide_eq_false hlt
        go_wp2
        have hI2 : SpI 0 P (fun k => P k ∨ w.heap.size ≤ k) w0 w wr g n cap ys := ⟨hI.len, fun q _ => hI.lim q (Nat.zero_le _), Kd.S_mono hI.s (fun k hk => .inl hk), hI.k, hI.b⟩
        clear hI
        go_loopw [4, 5, 6] (fun v4 _ _ ws => ∃ (j : Nat) (ys : List S40), j ≤ n ∧ v4 = .int .i64 (j : Int) ∧ SpI j P (fun k => P k ∨ w.heap.size ≤ k) w0 w ws g n cap ys) (fun v4 _ _ _ => n - (intOf v4).toNat)
        case atStart => exact ⟨0, ys, Nat.zero_le _, rfl, hI2⟩
        case round =>
          clear hI2
          obtain ⟨j, ys, hj, rfl, hI⟩ := hrel
          by_cases hjt : j < n
          · obtain ⟨okj, c, hcl, hM, hcc, hfz, hokj, hH⟩ := Kd.S_elem hI.s z40 (j : Int) (by omega) (by omega)
            obtain ⟨v5, rfl, hR⟩ := k40_openM hM
            simp only [Int.toNat_natCast] at hM hcc hR hH
            have c5 := hcc 5 v5 rfl
            rw [show j * k40.sz + 5 = j * 6 + 5 from rfl] at c5
            obtain ⟨A5, cap5, rfl⟩ := Kd.R_slice hR
            have hm := hI.lim j (Nat.le_refl _)
            have hJ : SpJ P (fun k => okj k ∨ (P k ∨ w.heap.size ≤ k) ∧ wr.heap.size ≤ k) w0 w wr wr g n cap j 0 ys (.slice A5 (ys.getD j z40).f5.length cap5) (ys.getD j z40).f5 _ :=
              ⟨Kd.R_mono hR (fun k hk => .inl hk), Kd.H_widen hH, hI.k, hI.b, by omega, fun q hq => hq.elim (fun h => (hokj q h).1) (fun h => h.1), fun q hq => .inr ⟨.inr (Nat.le_trans hI.k.1 hq), hq⟩⟩
            generalize (fun k => okj k ∨ (P k ∨ w.heap.size ≤ k) ∧ wr.heap.size ≤ k) = oki at hJ
            have hlen := hI.len
            have hlim := hI.lim
            generalize ys.getD j z40 = x at *
            have H4 := Lib.hid hJ; have H6 := Lib.hid hfz; have H7 := Lib.hid hlen; have H8 := Lib.hid hlim
            clear hI hM hH hR hokj hfz hcc hcl hm hJ hlen hlim
            go_wp2
            go_loopw [5, 6] (fun v5 v6 ws => ∃ (k : Nat) (ls : List ByteArray), k ≤ 16 ∧ v6 = .int .i64 (k : Int) ∧ SpJ P oki w0 w wr ws g n cap j k ys v5 ls [.string x.f0, .string x.f1, .int .i64 x.f2, .bool x.f3, .string x.f4, .slice A5 x.f5.length cap5]) (fun _ v6 _ => 16 - (intOf v6).toNat)
            case atStart => exact ⟨0, x.f5, Nat.zero_le _, rfl, H4.out⟩
            case round =>
              clear H4 c5
              obtain ⟨k, ls, hk, rfl, hJ⟩ := hrel
              obtain ⟨A, cA, rfl⟩ := Kd.R_slice hJ.r
              have HJ := Lib.hid hJ
              clear hJ
              by_cases hkt : k < 16
              · go_wp2_with (first | ((with_reducible refine gate_builtin (b := .append) (xs := #[.tmp 45, .tmp 46]) rfl ?_); at_builtin; refine Kd.R_append Kd.string (w0 := w0) w0.heap.size rfl (.tmp 45) (.tmp 46) 38 9 (.string ⟨#[]⟩) 16 rfl Tryz.underlying38 info9 rfl (by decide) (by omega) (.slice A ls.length cA) ls ⟨#[63, 63]⟩ [.string ⟨#[63, 63]⟩] oki (fun _ => False) rfl rfl ?aP (fun _ hk => hk.elim) ?aF ?aO ?aB ?aS ?aL ?_; (case aP => exact rfl); (case aB => exact HJ.out.b); (case aF => exact HJ.out.f); (case aO => exact HJ.out.r); (case aS => exact HJ.out.b.size); (case aL => have := HJ.out.l; omega); intro v1 w1 ho hb hg hat; have HK := Lib.hid (HJ.out.grow ho hb hg); clear ho hb hg hat))
                exact ⟨⟨k + 1, _, by omega, rfl, HK.out⟩, by simp [intOf]; omega⟩
              · have hge : decide (k < 16) = false := decide_eq_false hkt
                obtain ⟨hcell, hfr⟩ := HJ.out.cells hjt
                have s0 := hcell 0 _ rfl; have s1 := hcell 1 _ rfl; have s2 := hcell 2 _ rfl; have s3 := hcell 3 _ rfl; have s4 := hcell 4 _ rfl; have s5 := hcell 5 _ rfl
                have f0 := hfr (j * 6 + 0); have f1 := hfr (j * 6 + 1); have f2 := hfr (j * 6 + 2); have f3 := hfr (j * 6 + 3); have f4 := hfr (j * 6 + 4); have f5 := hfr (j * 6 + 5)
                simp only [Nat.add_zero] at s0 f0
                clear hcell hfr
                go_wp2
                exact ⟨⟨j + 1, _, by omega, rfl, HJ.out.back hjt rfl hk hg (.inl HG.out) rfl H7.out H8.out⟩, by simp [intOf]; omega⟩
          · have hge : decide (j < n) = false := decide_eq_false hjt
            have H1 := Lib.hid hI
            clear hI
            go_wp2
            go_end0
            exact ⟨rfl, H1.out.b, H1.out.k⟩
end Go.Proofs.YtmimipgmhgalaaaGreatDoor.PAll
