/-
  Part 3 of what the proof of ClientWelcome leans on: words of the print, walks of functions and plain laws; put together by pack.py, a program of this session.
-/
import Derived.Deep.RegionWith
import Derived.Outline
import Derived.Lib.ConvBytes
import Derived.Laws.BitsLemmas
import Derived.Lib.Hide
import Derived.Great.Walk
import Derived.Test.YtmimipgmhgalaaaGreatDoorKClientWelcomeb
section
namespace Go.Proofs.YtmimipgmhgalaaaGreatDoor.Spec
open Go.Proofs.YtmimipgmhgalaaaGreatDoor.PAll Go.Proofs.YtmimipgmhgalaaaGreatDoor.Pure
def sL (v : ByteArray) : List ByteArray := (scopesL v.data.toList).1.map bs
def takeL (n v : ByteArray) (c : ClT) : Option (ClT × Bool) :=
  if n = ⟨#[105, 100]⟩ then some ({ c with i := v }, true)
  else if n = ⟨#[115, 101, 99, 114, 101, 116]⟩ then some ({ c with s := v }, true)
  else if n = ⟨#[117, 114, 108]⟩ then some ({ c with u := v }, true)
  else if n = ⟨#[112, 105, 110, 103]⟩ then some ({ c with pg := v.toList != [] }, v.toList == [] || v.toList == [121, 101, 115])
  else if n = ⟨#[103, 114, 97, 110, 116, 115]⟩ then some ({ c with gr := (grantsL (sL v) c.gr).1 }, (grantsL (sL v) c.gr).2 && (scopesL v.data.toList).2 == 0)
  else if n = ⟨#[115, 99, 111, 112, 101]⟩ then some ({ c with sc := sL v }, (scopesL v.data.toList).2 == 0)
  else none
def smallB (c : ClT) : Bool := decide (c.i.size ≤ 140737488355328 ∧ c.s.size ≤ 140737488355328 ∧ c.u.size ≤ 140737488355328 ∧ c.sc.length ≤ 140737488355328 ∧ (joinedL c.sc).length ≤ 140737488355328)
def lineL : List S68 → List S68 → ClT → Option (ClT × Bool)
  | [], _, c => if smallB c = true then some (c, checkL c) else none
  | p :: r, seen, c => match takeL p.f0 p.f1 c with
    | none => some (c, false)
    | some (c', ok) => if seen.any (namedF p.f0) = true then some (c, false) else if ok = true then lineL r (seen ++ [p]) c' else some (c', false)
theorem lineL_cons (p : S68) (r seen : List S68) (c : ClT) : lineL (p :: r) seen c = match takeL p.f0 p.f1 c with
    | none => some (c, false)
    | some (c', ok) => if seen.any (namedF p.f0) = true then some (c, false) else if ok = true then lineL r (seen ++ [p]) c' else some (c', false) := rfl
def zC : ClT := ⟨⟨#[]⟩, ⟨#[]⟩, 0, false, ⟨#[]⟩, []⟩
def flatC (r : ClT × Bool) : ByteArray × ByteArray × Int × Bool × ByteArray × List ByteArray × Bool := (r.1.i, r.1.s, r.1.gr, r.1.pg, r.1.u, r.1.sc, r.2)
end Go.Proofs.YtmimipgmhgalaaaGreatDoor.Spec
namespace Go.Proofs.YtmimipgmhgalaaaGreatDoor.PAll
open Go.RowKit Go.Proofs.YtmimipgmhgalaaaGreatDoorW.PrintWords Go.Proofs.YtmimipgmhgalaaaGreatDoor.Plain Go.Proofs.YtmimipgmhgalaaaGreatDoor.Spec Go.Proofs.YtmimipgmhgalaaaGreatDoor.Pure
set_option linter.unusedVariables false
set_option linter.unusedSimpArgs false
def client_parseLine.f (a0 : ByteArray) : Option (ByteArray × ByteArray × Int × Bool × ByteArray × List ByteArray × Bool) :=
  if a0.size ≤ 140737488355328 then (if (parse a0.data.toList).2.1 = 0 then (lineL ((parse a0.data.toList).1.map mk34) [] zC).map flatC else some (flatC (zC, false))) else none
theorem zRule (w : World) : (zeroValue 137).run Tryz.prog w = .ok (.agg #[.nilFunc]) w := by kernel_rfl
theorem look_there (w : World) (mb : Nat) (hb : w.heap[mb]? = some (.map ruleTab 6)) (n : ByteArray) (i : Nat) (v : Value) (h : Instr.findNow .string (.string n) ruleTab.toList 0 = some (some (i, v))) :
    (Instr.lookup 133 (.map (some mb)) (.string n) true).run Tryz.prog w = .ok (.tuple #[v, .bool true]) w := by
  have hk : ∀ e, (Instr.checkKey e 10000 9 (.string n)).run Tryz.prog w = .ok () w := fun e => MapKept.run_checkKey Tryz.underlying9 (show MapKept.IsKey .string (.string n) from trivial) e 9999
  simp [Instr.lookup, run_underlying Tryz.underlying133, MapKept.run_getObj_map hb, hk, MapKept.run_findKey Tryz.underlying9 h, Result.andThen]
theorem look_none (w : World) (mb : Nat) (hb : w.heap[mb]? = some (.map ruleTab 6)) (n : ByteArray) (h : Instr.findNow .string (.string n) ruleTab.toList 0 = some none) :
    (Instr.lookup 133 (.map (some mb)) (.string n) true).run Tryz.prog w = .ok (.tuple #[.agg #[.nilFunc], .bool false]) w := by
  have hk : ∀ e, (Instr.checkKey e 10000 9 (.string n)).run Tryz.prog w = .ok () w := fun e => MapKept.run_checkKey Tryz.underlying9 (show MapKept.IsKey .string (.string n) from trivial) e 9999
  simp [Instr.lookup, run_underlying Tryz.underlying133, MapKept.run_getObj_map hb, hk, MapKept.run_findKey Tryz.underlying9 h, Result.andThen, zRule]
theorem bytes_ne {a b : ByteArray} (h : ¬ a = b) : (a == b) = false := by
  have e : (a == b) = (a.data == b.data) := rfl
  rw [e, beq_eq_false_iff_ne]
  intro e2
  exact h (by cases a; cases b; simp_all)
theorem find_none (n : ByteArray) (v : ByteArray) (c : ClT) (h : takeL n v c = none) : Instr.findNow .string (.string n) ruleTab.toList 0 = some none := by
  unfold takeL at h
  split at h
  · cases h
  · rename_i h1
    split at h
    · cases h
    · rename_i h2
      split at h
      · cases h
      · rename_i h3
        split at h
        · cases h
        · rename_i h4
          split at h
          · cases h
          · rename_i h5
            split at h
            · cases h
            · rename_i h6
              simp [ruleTab, Instr.findNow, Instr.sameNow, bytes_ne h1, bytes_ne h2, bytes_ne h3, bytes_ne h4, bytes_ne h5, bytes_ne h6]
structure Taken (n v : ByteArray) (c c' : ClT) (ok : Bool) (i f : Nat) : Prop where
  find : Instr.findNow .string (.string n) ruleTab.toList 0 = some (some (i, ruleV f))
  enters : ∀ args w, (callFunc f args).run Tryz.prog w = .ok (.enter f args) w
  call : ∀ (w0 w : World) (g : Nat) (sv : Value), Cl w0 w g c.i c.s c.gr c.pg c.u sv → Kd.R Kd.string 9 w w0.heap.size (fun k => g < k) sv c.sc →
    Calls Tryz.prog f #[.pointer (some ⟨g, 0, none⟩), .string v] w fun e w' => e = .returned (.bool ok) ∧ ∃ sv', Cl w0 w' g c'.i c'.s c'.gr c'.pg c'.u sv' ∧ Kd.R Kd.string 9 w' w0.heap.size (fun k => g < k) sv' c'.sc ∧ KeepBut w w' g none
theorem R_kept {w w' : World} {base g : Nat} {sv : Value} {l : List ByteArray} (h : Kd.R Kd.string 9 w base (fun k => g < k) sv l) (hk : KeepBut w w' g none) : Kd.R Kd.string 9 w' base (fun k => g < k) sv l := Kd.R_keep h hk (fun k hk' e => by omega)
theorem take_any (n v : ByteArray) (c c' : ClT) (ok : Bool) (h : takeL n v c = some (c', ok)) : ∃ i f, Taken n v c c' ok i f := by
  obtain ⟨k, hk⟩ := Ev.rounds (scopes_ev v)
  unfold takeL at h
  split at h
  · rename_i hn
    subst hn
    simp only [Option.some.injEq, Prod.mk.injEq] at h
    obtain ⟨rfl, rfl⟩ := h
    exact ⟨0, 117, by kernel_rfl, enters_of Tryz.func117 (by kernel_rfl) rfl, fun w0 w g sv hC hR => (take_id g _ _ _ _ _ _ v w0 w hC).mono fun e w' ⟨he, h1, h2⟩ => ⟨he, sv, h1, R_kept hR h2, h2⟩⟩
  · split at h
    · rename_i hn
      subst hn
      simp only [Option.some.injEq, Prod.mk.injEq] at h
      obtain ⟨rfl, rfl⟩ := h
      exact ⟨1, 118, by kernel_rfl, enters_of Tryz.func118 (by kernel_rfl) rfl, fun w0 w g sv hC hR => (take_secret g _ _ _ _ _ _ v w0 w hC).mono fun e w' ⟨he, h1, h2⟩ => ⟨he, sv, h1, R_kept hR h2, h2⟩⟩
    · split at h
      · rename_i hn
        subst hn
        simp only [Option.some.injEq, Prod.mk.injEq] at h
        obtain ⟨rfl, rfl⟩ := h
        exact ⟨2, 119, by kernel_rfl, enters_of Tryz.func119 (by kernel_rfl) rfl, fun w0 w g sv hC hR => (take_url g _ _ _ _ _ _ v w0 w hC).mono fun e w' ⟨he, h1, h2⟩ => ⟨he, sv, h1, R_kept hR h2, h2⟩⟩
      · split at h
        · rename_i hn
          subst hn
          simp only [Option.some.injEq, Prod.mk.injEq] at h
          obtain ⟨rfl, rfl⟩ := h
          exact ⟨3, 120, by kernel_rfl, enters_of Tryz.func120 (by kernel_rfl) rfl, fun w0 w g sv hC hR => (take_ping g _ _ _ _ _ _ v w0 w hC).mono fun e w' ⟨he, h1, h2⟩ => ⟨he, sv, h1, R_kept hR h2, h2⟩⟩
        · split at h
          · rename_i hn
            subst hn
            simp only [Option.some.injEq, Prod.mk.injEq] at h
            obtain ⟨rfl, rfl⟩ := h
            exact ⟨4, 121, by kernel_rfl, enters_of Tryz.func121 (by kernel_rfl) rfl, fun w0 w g sv hC hR => (take_grants k g _ _ _ _ _ _ v _ _ hk w0 w hC).mono fun e w' ⟨he, h1, h2⟩ => ⟨he, sv, h1, R_kept hR h2, h2⟩⟩
          · split at h
            · rename_i hn
              subst hn
              simp only [Option.some.injEq, Prod.mk.injEq] at h
              obtain ⟨rfl, rfl⟩ := h
              refine ⟨5, 122, by kernel_rfl, enters_of Tryz.func122 (by kernel_rfl) rfl, fun w0 w g sv hC hR => (take_scope k g _ _ _ _ _ _ v _ _ hk w0 w hC).mono fun e w' ⟨he, sv', h1, h2, h3⟩ => ⟨he, sv', h1, ?_, h3⟩⟩
              have hg := blk_lt hC.b
              exact Kd.R_mono (Kd.R_lower (R_above h2) hC.o.size) (fun k hk => by omega)
            · cases h
theorem run_store_nilFunc {P : Program} {w : World} {a : Addr} {m : Mode} : (store a .nilFunc m).run P w = stored P w a .nilFunc m := run_store P w a _ m rfl
theorem run_store_fn {P : Program} {w : World} {a : Addr} {m : Mode} (f : Nat) : (store a (.func (.func f) #[] #[]) m).run P w = stored P w a (.func (.func f) #[] #[]) m := run_store P w a _ m rfl
attribute [local go_sem] run_store_nilFunc run_store_fn
structure LineInv (w wr : World) (mb : Nat) (Af : Option Addr) (cf : Nat) (L : List S68) (c : ClT) (sv : Value) : Prop where
  cl : Cl w wr (w.heap.size + 1) c.i c.s c.gr c.pg c.u sv
  rs : wr.heap[w.heap.size]? = some (.cells (clCells ⟨#[]⟩ ⟨#[]⟩ 0 false ⟨#[]⟩ (.slice none 0 0)) 40 (0, 0))
  sc : Kd.R Kd.string 9 wr w.heap.size (fun k => w.heap.size + 1 < k) sv c.sc
  fm : Kd.R k68 68 wr w.heap.size (fun k => w.heap.size + 1 < k) (.slice Af L.length cf) L
  mp : wr.heap[mb]? = some (.map ruleTab 6)
  mn : w.heap.size + 1 < mb
section
variable {w wr : World} {mb : Nat} {Af : Option Addr} {cf : Nat} {L : List S68} {c : ClT} {sv : Value} (h : LineInv w wr mb Af cf L c sv)
include h
theorem LineInv.step {w' : World} (hb : Below wr.heap.size wr w') : LineInv w w' mb Af cf L c sv :=
  ⟨h.cl.step hb, blk_below h.rs hb, Kd.R_below h.sc hb, Kd.R_below h.fm hb, blk_below h.mp hb, h.mn⟩
theorem LineInv.turn {w' : World} {c' : ClT} {sv' : Value} (hk : KeepBut wr w' (w.heap.size + 1) none) (hc : Cl w w' (w.heap.size + 1) c'.i c'.s c'.gr c'.pg c'.u sv') (hr : Kd.R Kd.string 9 w' w.heap.size (fun k => w.heap.size + 1 < k) sv' c'.sc) : LineInv w w' mb Af cf L c' sv' :=
  ⟨hc, (hk.2 _ (blk_lt h.rs) (by omega) (by simp)).trans h.rs, hr, Kd.R_keep h.fm hk (fun k hk e => by omega), (hk.2 _ (blk_lt h.mp) (by have := h.mn; omega) (by simp)).trans h.mp, h.mn⟩
end
abbrev putRes (wr : World) (g : Nat) (c : ClT) (sv : Value) : World := (((((wr.setCell ⟨g, 0, none⟩ (.string c.i)).setCell ⟨g, 1, none⟩ (.string c.s)).setCell ⟨g, 2, none⟩ (.int .i64 c.gr)).setCell ⟨g, 3, none⟩ (.bool c.pg)).setCell ⟨g, 4, none⟩ (.string c.u)).setCell ⟨g, 5, none⟩ sv
theorem LineInv.done {w wr : World} {mb : Nat} {Af : Option Addr} {cf : Nat} {L : List S68} {c : ClT} {sv : Value} (h : LineInv w wr mb Af cf L c sv) :
    (putRes wr w.heap.size c sv).heap[w.heap.size]? = some (.cells (clCells c.i c.s c.gr c.pg c.u sv) 40 (0, 0)) ∧ Kd.R Kd.string 9 (putRes wr w.heap.size c sv) w.heap.size (fun _ => True) sv c.sc ∧ Below w.heap.size w (putRes wr w.heap.size c sv) := by
  refine ⟨blk_put (blk_put (blk_put (blk_put (blk_put (blk_put h.rs 0 _ rfl) 1 _ rfl) 2 _ rfl) 3 _ rfl) 4 _ rfl) 5 _ rfl, R_any (?_ : Kd.R Kd.string 9 _ w.heap.size (fun k => w.heap.size + 1 < k) sv c.sc), ?_⟩
  · have hne : ∀ k, w.heap.size + 1 < k → k ≠ w.heap.size := fun k hk e => by omega
    exact Kd.R_far (Kd.R_far (Kd.R_far (Kd.R_far (Kd.R_far (Kd.R_far h.sc hne _) hne _) hne _) hne _) hne _) hne _
  · have hg : w.heap.size ≤ w.heap.size := Nat.le_refl _
    exact below_set (below_set (below_set (below_set (below_set (below_set h.cl.o hg) hg) hg) hg) hg) hg
theorem rule_at {wr w3 : World} {p0 p1 : ByteArray} {f : Nat} (hb : Below ((wr.alloc (.cells #[.string p0, .string p1] 68)).alloc (.cells #[.func (.func f) #[] #[]] 137)).heap.size ((wr.alloc (.cells #[.string p0, .string p1] 68)).alloc (.cells #[.func (.func f) #[] #[]] 137)) w3) :
    w3.cell? ⟨wr.heap.size + 1, 0, none⟩ = some (.func (.func f) #[] #[]) := by
  have h := blk_new (wr.alloc (.cells #[.string p0, .string p1] 68)) (.cells #[.func (.func f) #[] #[]] 137)
  have hs : (wr.alloc (.cells #[.string p0, .string p1] 68)).heap.size = wr.heap.size + 1 := by show (wr.heap.push _).size = _; simp
  rw [hs] at h
  rw [blk_cell (blk_below h hb)]
  rfl
theorem pair_at {wr w3 : World} {p0 p1 : ByteArray} {f : Nat} (hb : Below ((wr.alloc (.cells #[.string p0, .string p1] 68)).alloc (.cells #[.func (.func f) #[] #[]] 137)).heap.size ((wr.alloc (.cells #[.string p0, .string p1] 68)).alloc (.cells #[.func (.func f) #[] #[]] 137)) w3) :
    w3.cell? ⟨wr.heap.size, 1, none⟩ = some (.string p1) := by
  rw [blk_cell (blk_below (blk_alloc (blk_new wr (.cells #[.string p0, .string p1] 68)) (.cells #[.func (.func f) #[] #[]] 137)) hb)]
  rfl
theorem line_start (w w1 : World) (Af : Option Addr) (cf : Nat) (L : List S68)
    (hb : Below ((w.alloc (.cells (clCells ⟨#[]⟩ ⟨#[]⟩ 0 false ⟨#[]⟩ (.slice none 0 0)) 40)).alloc (.cells (clCells ⟨#[]⟩ ⟨#[]⟩ 0 false ⟨#[]⟩ (.slice none 0 0)) 40)).heap.size ((w.alloc (.cells (clCells ⟨#[]⟩ ⟨#[]⟩ 0 false ⟨#[]⟩ (.slice none 0 0)) 40)).alloc (.cells (clCells ⟨#[]⟩ ⟨#[]⟩ 0 false ⟨#[]⟩ (.slice none 0 0)) 40)) w1)
    (ho : Kd.R k68 68 w1 ((w.alloc (.cells (clCells ⟨#[]⟩ ⟨#[]⟩ 0 false ⟨#[]⟩ (.slice none 0 0)) 40)).alloc (.cells (clCells ⟨#[]⟩ ⟨#[]⟩ 0 false ⟨#[]⟩ (.slice none 0 0)) 40)).heap.size (fun _ => True) (.slice Af L.length cf) L) :
    LineInv w (w1.alloc (.map ruleTab 6)) w1.heap.size Af cf L zC (.slice none 0 0) := by
  have h1 := blk_new w (.cells (clCells ⟨#[]⟩ ⟨#[]⟩ 0 false ⟨#[]⟩ (.slice none 0 0)) 40)
  have h2 := blk_new (w.alloc (.cells (clCells ⟨#[]⟩ ⟨#[]⟩ 0 false ⟨#[]⟩ (.slice none 0 0)) 40)) (.cells (clCells ⟨#[]⟩ ⟨#[]⟩ 0 false ⟨#[]⟩ (.slice none 0 0)) 40)
  have hB : Below w.heap.size w ((w.alloc (.cells (clCells ⟨#[]⟩ ⟨#[]⟩ 0 false ⟨#[]⟩ (.slice none 0 0)) 40)).alloc (.cells (clCells ⟨#[]⟩ ⟨#[]⟩ 0 false ⟨#[]⟩ (.slice none 0 0)) 40)) := below_alloc (below_alloc (Below.refl _ _) _) _
  have hs1 : (w.alloc (.cells (clCells ⟨#[]⟩ ⟨#[]⟩ 0 false ⟨#[]⟩ (.slice none 0 0)) 40)).heap.size = w.heap.size + 1 := by show (w.heap.push _).size = _; simp
  have hs2 : ((w.alloc (.cells (clCells ⟨#[]⟩ ⟨#[]⟩ 0 false ⟨#[]⟩ (.slice none 0 0)) 40)).alloc (.cells (clCells ⟨#[]⟩ ⟨#[]⟩ 0 false ⟨#[]⟩ (.slice none 0 0)) 40)).heap.size = w.heap.size + 2 := by show ((w.heap.push _).push _).size = _; simp
  rw [hs1] at h2
  have hz := hb.size
  have r1 := blk_below (blk_alloc h1 (.cells (clCells ⟨#[]⟩ ⟨#[]⟩ 0 false ⟨#[]⟩ (.slice none 0 0)) 40)) hb
  have r2 := blk_below h2 hb
  have hBw : Below w.heap.size w w1 := hB.trans (hb.mono (by omega))
  have ho' := Kd.R_lower (Kd.R_mono (Kd.R_bound ho) (ok' := fun k => w.heap.size + 1 < k) (fun k hk => by have := hk.2.1; omega)) (show w.heap.size ≤ _ by omega)
  refine LineInv.mk ⟨blk_alloc r2 _, below_alloc hBw _, by omega⟩ (blk_alloc r1 _) (Kd.R_nil _ _ _ _ _) (Kd.R_alloc ho' _) (blk_new w1 _) (by omega)
theorem line_first (w w1 : World) (Af : Option Addr) (cf : Nat) (L : List S68)
    (hb : Below ((w.alloc (.cells (clCells ⟨#[]⟩ ⟨#[]⟩ 0 false ⟨#[]⟩ (.slice none 0 0)) 40)).alloc (.cells (clCells ⟨#[]⟩ ⟨#[]⟩ 0 false ⟨#[]⟩ (.slice none 0 0)) 40)).heap.size ((w.alloc (.cells (clCells ⟨#[]⟩ ⟨#[]⟩ 0 false ⟨#[]⟩ (.slice none 0 0)) 40)).alloc (.cells (clCells ⟨#[]⟩ ⟨#[]⟩ 0 false ⟨#[]⟩ (.slice none 0 0)) 40)) w1)
    (ho : Kd.R k68 68 w1 ((w.alloc (.cells (clCells ⟨#[]⟩ ⟨#[]⟩ 0 false ⟨#[]⟩ (.slice none 0 0)) 40)).alloc (.cells (clCells ⟨#[]⟩ ⟨#[]⟩ 0 false ⟨#[]⟩ (.slice none 0 0)) 40)).heap.size (fun _ => True) (.slice Af L.length cf) L) :
    Cl w w1 (w.heap.size + 1) ⟨#[]⟩ ⟨#[]⟩ 0 false ⟨#[]⟩ (.slice none 0 0) ∧ w1.heap[w.heap.size]? = some (.cells (clCells ⟨#[]⟩ ⟨#[]⟩ 0 false ⟨#[]⟩ (.slice none 0 0)) 40 (0, 0)) := by
  have h1 := blk_new w (.cells (clCells ⟨#[]⟩ ⟨#[]⟩ 0 false ⟨#[]⟩ (.slice none 0 0)) 40)
  have h2 := blk_new (w.alloc (.cells (clCells ⟨#[]⟩ ⟨#[]⟩ 0 false ⟨#[]⟩ (.slice none 0 0)) 40)) (.cells (clCells ⟨#[]⟩ ⟨#[]⟩ 0 false ⟨#[]⟩ (.slice none 0 0)) 40)
  have hB : Below w.heap.size w ((w.alloc (.cells (clCells ⟨#[]⟩ ⟨#[]⟩ 0 false ⟨#[]⟩ (.slice none 0 0)) 40)).alloc (.cells (clCells ⟨#[]⟩ ⟨#[]⟩ 0 false ⟨#[]⟩ (.slice none 0 0)) 40)) := below_alloc (below_alloc (Below.refl _ _) _) _
  have hs1 : (w.alloc (.cells (clCells ⟨#[]⟩ ⟨#[]⟩ 0 false ⟨#[]⟩ (.slice none 0 0)) 40)).heap.size = w.heap.size + 1 := by show (w.heap.push _).size = _; simp
  have hs2 : ((w.alloc (.cells (clCells ⟨#[]⟩ ⟨#[]⟩ 0 false ⟨#[]⟩ (.slice none 0 0)) 40)).alloc (.cells (clCells ⟨#[]⟩ ⟨#[]⟩ 0 false ⟨#[]⟩ (.slice none 0 0)) 40)).heap.size = w.heap.size + 2 := by show ((w.heap.push _).push _).size = _; simp
  rw [hs1] at h2
  have hz := hb.size
  have r1 := blk_below (blk_alloc h1 (.cells (clCells ⟨#[]⟩ ⟨#[]⟩ 0 false ⟨#[]⟩ (.slice none 0 0)) 40)) hb
  have r2 := blk_below h2 hb
  have hBw : Below w.heap.size w w1 := hB.trans (hb.mono (by omega))
  exact ⟨⟨r2, hBw, by omega⟩, r1⟩
set_option maxHeartbeats 8000000 in
set_option maxRecDepth 100000 in
theorem client_parseLine.calls (a0 : ByteArray) (r1 r2 : ByteArray) (r3 : Int) (r4 : Bool) (r5 : ByteArray) (r6 : List ByteArray) (r7 : Bool) (w : World) (h : client_parseLine.f a0 = some (r1, r2, r3, r4, r5, r6, r7)) :
    Calls Tryz.prog 51 #[.string a0] w fun e w' => ∃ v0_ : Value, e = .returned (.tuple #[.agg #[.string r1, .string r2, .int .i64 r3, .bool r4, .string r5, v0_], .bool r7]) ∧ Kd.R Kd.string 9 w' w.heap.size (fun _ => True) v0_ r6 ∧ Below w.heap.size w w' := by
  unfold client_parseLine.f at h
  split at h
  · rename_i hs
    obtain ⟨kp, hkp⟩ := Ev.rounds (parse_ev a0 hs)
    split at h
    · rename_i he
      have hkp' : urlform_Parse.f kp a0 = some ((parse a0.data.toList).1.map mk34, 0, (parse a0.data.toList).2.2) := by rw [hkp]; unfold res34; rw [he]
      obtain ⟨L, hL⟩ : ∃ L, (parse a0.data.toList).1.map mk34 = L := ⟨_, rfl⟩
      obtain ⟨pl, hpl⟩ : ∃ pl, (parse a0.data.toList).2.2 = pl := ⟨_, rfl⟩
      rw [hL, hpl] at hkp'
      rw [hL] at h
      obtain ⟨R, hR⟩ : ∃ R, some R = lineL L [] zC := by
        cases hl : lineL L [] zC with
        | none => rw [hl] at h; cases h
        | some R => exact ⟨R, rfl⟩
      rw [← hR] at h
      have HH := Lib.hid h
      have HL := Lib.hid hR
      clear h hkp he hL hpl hR
      have hu137 := Tryz.underlying137
      have hu68 := Tryz.underlying68
      have hu40 := Tryz.underlying40
      go_enter Tryz.func51, Tryz.ntmps51
      go_wp2_with (first | (go_at_call 82; refine (urlform_Parse.calls kp a0 _ _ _ _ hkp').mono ?_; rintro e w1 ⟨v0, rfl, ho, hb⟩; obtain ⟨Af, cf, rfl⟩ := Kd.R_slice ho; have hI := line_start w w1 Af cf L hb ho; clear ho hb) | (go_at_call 83; refine (client_rules.calls _).mono ?_; rintro e w2 ⟨rfl, rfl⟩))
      go_loopw [26] (fun v26 wr => ∃ (j : Nat) (c : ClT) (sv : Value), v26 = .int .i64 (j : Int) ∧ j ≤ L.length ∧ LineInv w wr w1.heap.size Af cf L c sv ∧ some R = lineL (L.drop j) (L.take j) c) (fun v26 _ => L.length - (intOf v26).toNat)
      case atStart => exact ⟨0, zC, _, rfl, Nat.zero_le _, hI, HL.out⟩
      case round =>
        obtain ⟨j, c, sv, rfl, hj, hJ, hG⟩ := hrel
        clear hI
        obtain ⟨As, cs, rfl⟩ := Kd.R_slice hJ.sc
        have hF := Kd.R_reads' hJ.fm
        have hlen : L.length ≤ 9223372036854775807 := hF.2.2.2.1
        by_cases hlt : j < L.length
        · obtain ⟨ad, hA, hx0, hx1⟩ := at_T68 hF.2.2 (j : Int) (by omega) (by omega)
          subst hA
          have hp : rd_T68 L (j : Int) = L[j] := by simp [rd_T68, hlt]
          rw [hp] at hx0 hx1
          rw [List.drop_eq_getElem_cons hlt] at hG
          have htk := List.take_succ_eq_append_getElem hlt
          simp only [Int.toNat_natCast] at hx0 hx1
          clear hp
          generalize hpk : L[j] = p at *
          have hP1 : Below wr.heap.size wr (wr.alloc (.cells #[.string p.f0, .string p.f1] 68)) := below_alloc (Below.refl _ _) _
          have hJ1 := hJ.step hP1
          have hPb := blk_new wr (.cells #[.string p.f0, .string p.f1] 68)
          have hLj : (L.take j).length = j := by rw [List.length_take]; omega
          have hmono := fun o => hJ1.step (below_alloc (Below.refl _ _) o)
          have hall := fun (o : Obj) => all_twice (some ad) cf (L.take j) p.f0 p.f1 wr.heap.size ((wr.alloc (.cells #[.string p.f0, .string p.f1] 68)).alloc o) (C_take (Kd.R_reads' (hmono o).fm).2.2 j hj) (blk_alloc hPb o)
          rw [hLj] at hall
          cases hT : takeL p.f0 p.f1 c with
          | none =>
            have hlk := look_none (wr.alloc (.cells #[.string p.f0, .string p.f1] 68)) w1.heap.size hJ1.mp p.f0 (find_none _ _ _ hT)
            have hall0 := hall (.cells #[.nilFunc] 137)
            have hJ2 := hmono (.cells #[.nilFunc] 137)
            clear hall hmono
            have HJ := Lib.hid hJ
            have HJ1 := Lib.hid hJ1
            have HJ2 := Lib.hid hJ2
            have hh := HH.out
            have hR : some R = some (c, false) := by rw [hG, lineL_cons, hT]
            rw [hR] at hh
            simp only [Option.map_some, flatC, Option.some.injEq, Prod.mk.injEq] at hh
            have HR := Lib.hid hh
            clear hJ hJ1 hJ2 hG hR hh
            go_wp2_with (go_at_call 84; refine hall0.mono ?_; rintro e w3 ⟨rfl, hb3⟩; have hJ3 := HJ2.out.step hb3; have cc0 := hJ3.cl.c0; have cc1 := hJ3.cl.c1; have cc2 := hJ3.cl.c2; have cc3 := hJ3.cl.c3; have cc4 := hJ3.cl.c4; have cc5 := hJ3.cl.c5; have rc0 := blk_cell hJ3.rs 0; have rc1 := blk_cell hJ3.rs 1; have rc2 := blk_cell hJ3.rs 2; have rc3 := blk_cell hJ3.rs 3; have rc4 := blk_cell hJ3.rs 4; have rc5 := blk_cell hJ3.rs 5; have rf0 := blk_frozen hJ3.rs 0; have rf1 := blk_frozen hJ3.rs 1; have rf2 := blk_frozen hJ3.rs 2; have rf3 := blk_frozen hJ3.rs 3; have rf4 := blk_frozen hJ3.rs 4; have rf5 := blk_frozen hJ3.rs 5; have hE := Lib.hid hJ3.done)
            refine bodyPost_ret (results_ct rfl _ _ w.heap.size 40 (clCells c.i c.s c.gr c.pg c.u (.slice As c.sc.length cs)) (0, 0) _ rfl hE.out.1 hu40 rfl (by kernel_rfl)) rfl ?_
            obtain ⟨h1, h2, h3, h4, h5, h6, h7⟩ := HR.out
            exact ⟨_, by rw [← h1, ← h2, ← h3, ← h4, ← h5, ← h7]; rfl, by rw [← h6]; exact hE.out.2.1, hE.out.2.2⟩
          | some q =>
            obtain ⟨c', ok⟩ := q
            obtain ⟨ix, f, T⟩ := take_any _ _ _ _ _ hT
            have hlk := look_there (wr.alloc (.cells #[.string p.f0, .string p.f1] 68)) w1.heap.size hJ1.mp p.f0 ix (ruleV f) T.find
            have hall0 := hall (.cells #[.func (.func f) #[] #[]] 137)
            have hJ2 := hmono (.cells #[.func (.func f) #[] #[]] 137)
            have eF := T.enters
            clear hall hmono
            have HJ := Lib.hid hJ
            have HJ1 := Lib.hid hJ1
            have HJ2 := Lib.hid hJ2
            have HT := Lib.hid T
            clear T hJ hJ1 hJ2
            cases htw : (L.take j).any (namedF p.f0) with
            | true =>
              rw [htw] at hall0
              have hh := HH.out
              have hR : some R = some (c, false) := by rw [hG, lineL_cons, hT]; show (if (L.take j).any (namedF p.f0) = true then _ else _) = _; rw [htw]; rfl
              rw [hR] at hh
              simp only [Option.map_some, flatC, Option.some.injEq, Prod.mk.injEq] at hh
              have HR := Lib.hid hh
              clear hG hR hh
              go_wp2_with (go_at_call 84; refine hall0.mono ?_; rintro e w3 ⟨rfl, hb3⟩; have hJ3 := HJ2.out.step hb3; have cc0 := hJ3.cl.c0; have cc1 := hJ3.cl.c1; have cc2 := hJ3.cl.c2; have cc3 := hJ3.cl.c3; have cc4 := hJ3.cl.c4; have cc5 := hJ3.cl.c5; have rc0 := blk_cell hJ3.rs 0; have rc1 := blk_cell hJ3.rs 1; have rc2 := blk_cell hJ3.rs 2; have rc3 := blk_cell hJ3.rs 3; have rc4 := blk_cell hJ3.rs 4; have rc5 := blk_cell hJ3.rs 5; have rf0 := blk_frozen hJ3.rs 0; have rf1 := blk_frozen hJ3.rs 1; have rf2 := blk_frozen hJ3.rs 2; have rf3 := blk_frozen hJ3.rs 3; have rf4 := blk_frozen hJ3.rs 4; have rf5 := blk_frozen hJ3.rs 5; have hE := Lib.hid hJ3.done)
              refine bodyPost_ret (results_ct rfl _ _ w.heap.size 40 (clCells c.i c.s c.gr c.pg c.u (.slice As c.sc.length cs)) (0, 0) _ rfl hE.out.1 hu40 rfl (by kernel_rfl)) rfl ?_
              obtain ⟨h1, h2, h3, h4, h5, h6, h7⟩ := HR.out
              exact ⟨_, by rw [← h1, ← h2, ← h3, ← h4, ← h5, ← h7]; rfl, by rw [← h6]; exact hE.out.2.1, hE.out.2.2⟩
            | false =>
              rw [htw] at hall0
              have hG2 : some R = if ok = true then lineL (L.drop (j + 1)) (L.take (j + 1)) c' else some (c', false) := by rw [hG, lineL_cons, hT, htk]; show (if (L.take j).any (namedF p.f0) = true then _ else _) = _; rw [htw]; rfl
              clear hG
              cases ok with
              | true =>
                rw [if_pos rfl] at hG2
                have HG2 := Lib.hid hG2
                clear hG2
                go_wp2_with (first | (go_at_call 84; refine hall0.mono ?_; rintro e w3 ⟨rfl, hb3⟩; have hJ3 := HJ2.out.step hb3; have hq := rule_at hb3; have hpv := pair_at hb3) | (go_at_fn f; refine (HT.out.call w w3 (w.heap.size + 1) _ hJ3.cl hJ3.sc).mono ?_; rintro e w4 ⟨rfl, sv', hC', hR', hK'⟩))
                exact ⟨⟨j + 1, c', sv', rfl, by omega, hJ3.turn hK' hC' hR', HG2.out⟩, by simp [intOf]; omega⟩
              | false =>
                rw [if_neg (by simp)] at hG2
                have hh := HH.out
                rw [hG2] at hh
                simp only [Option.map_some, flatC, Option.some.injEq, Prod.mk.injEq] at hh
                have HR := Lib.hid hh
                clear hG2 hh
                go_wp2_with (first | (go_at_call 84; refine hall0.mono ?_; rintro e w3 ⟨rfl, hb3⟩; have hJ3 := HJ2.out.step hb3; have hq := rule_at hb3; have hpv := pair_at hb3) | (go_at_fn f; refine (HT.out.call w w3 (w.heap.size + 1) _ hJ3.cl hJ3.sc).mono ?_; rintro e w4 ⟨rfl, sv', hC', hR', hK'⟩; have hJ4 := hJ3.turn hK' hC' hR'; clear hq hpv hC' hK'; obtain ⟨As', cs', rfl⟩ := Kd.R_slice hR'; have cc0 := hJ4.cl.c0; have cc1 := hJ4.cl.c1; have cc2 := hJ4.cl.c2; have cc3 := hJ4.cl.c3; have cc4 := hJ4.cl.c4; have cc5 := hJ4.cl.c5; have rc0 := blk_cell hJ4.rs 0; have rc1 := blk_cell hJ4.rs 1; have rc2 := blk_cell hJ4.rs 2; have rc3 := blk_cell hJ4.rs 3; have rc4 := blk_cell hJ4.rs 4; have rc5 := blk_cell hJ4.rs 5; have rf0 := blk_frozen hJ4.rs 0; have rf1 := blk_frozen hJ4.rs 1; have rf2 := blk_frozen hJ4.rs 2; have rf3 := blk_frozen hJ4.rs 3; have rf4 := blk_frozen hJ4.rs 4; have rf5 := blk_frozen hJ4.rs 5; have hE := Lib.hid hJ4.done))
                refine bodyPost_ret (results_ct rfl _ _ w.heap.size 40 (clCells c'.i c'.s c'.gr c'.pg c'.u (.slice As' c'.sc.length cs')) (0, 0) _ rfl hE.out.1 hu40 rfl (by kernel_rfl)) rfl ?_
                obtain ⟨h1, h2, h3, h4, h5, h6, h7⟩ := HR.out
                exact ⟨_, by rw [← h1, ← h2, ← h3, ← h4, ← h5, ← h7]; rfl, by rw [← h6]; exact hE.out.2.1, hE.out.2.2⟩
        · have hge : decide (j < L.length) = false := decide_eq_false hlt
          rw [List.drop_eq_nil_of_le (by omega)] at hG
          have hsm : smallB c = true := by
            cases hb : smallB c with
            | true => rfl
            | false => unfold lineL at hG; rw [hb] at hG; simp at hG
          have hG2 : some R = some (c, checkL c) := by rw [hG]; unfold lineL; rw [hsm]; rfl
          have hh := HH.out
          rw [hG2] at hh
          simp only [Option.map_some, flatC, Option.some.injEq, Prod.mk.injEq] at hh
          have HR := Lib.hid hh
          unfold smallB at hsm
          obtain ⟨s1, s2, s3, s4, s5⟩ := of_decide_eq_true hsm
          obtain ⟨kc, hkc⟩ := Ev.rounds (check_ev c ⟨s1, s2, s3, s4, s5⟩)
          have hS := Kd.R_reads' hJ.sc
          have HJ := Lib.hid hJ
          have hJ3 := hJ.step (Below.drew (Below.refl _ wr))
          clear hG hG2 hh hsm s1 s2 s3 s4 s5 hJ hS hF
          have hS := Kd.R_reads' hJ3.sc
          have HS1 := Lib.hid hS.2.2
          have HS2 := Lib.hid hS.2.1
          have HK := Lib.hid hkc
          clear hS hkc
          have cc0 := hJ3.cl.c0
          have cc1 := hJ3.cl.c1
          have cc2 := hJ3.cl.c2
          have cc3 := hJ3.cl.c3
          have cc4 := hJ3.cl.c4
          have cc5 := hJ3.cl.c5
          have rc0 := blk_cell hJ3.rs 0
          have rc1 := blk_cell hJ3.rs 1
          have rc2 := blk_cell hJ3.rs 2
          have rc3 := blk_cell hJ3.rs 3
          have rc4 := blk_cell hJ3.rs 4
          have rc5 := blk_cell hJ3.rs 5
          have rf0 := blk_frozen hJ3.rs 0
          have rf1 := blk_frozen hJ3.rs 1
          have rf2 := blk_frozen hJ3.rs 2
          have rf3 := blk_frozen hJ3.rs 3
          have rf4 := blk_frozen hJ3.rs 4
          have rf5 := blk_frozen hJ3.rs 5
          have hE := Lib.hid hJ3.done
          clear hE
          have HJ3 := Lib.hid hJ3
          clear hJ3
          go_wp2
          go_region_with (go_at_call 23; refine (client_Check.calls kc c.i c.s c.gr c.pg c.u As cs c.sc _ _ HS1.out HS2.out HK.out).mono ?_; rintro e w3 ⟨rfl, hb3⟩; have hJ4 := HJ3.out.step hb3; have cc0 := hJ4.cl.c0; have cc1 := hJ4.cl.c1; have cc2 := hJ4.cl.c2; have cc3 := hJ4.cl.c3; have cc4 := hJ4.cl.c4; have cc5 := hJ4.cl.c5; have rc0 := blk_cell hJ4.rs 0; have rc1 := blk_cell hJ4.rs 1; have rc2 := blk_cell hJ4.rs 2; have rc3 := blk_cell hJ4.rs 3; have rc4 := blk_cell hJ4.rs 4; have rc5 := blk_cell hJ4.rs 5; have rf0 := blk_frozen hJ4.rs 0; have rf1 := blk_frozen hJ4.rs 1; have rf2 := blk_frozen hJ4.rs 2; have rf3 := blk_frozen hJ4.rs 3; have rf4 := blk_frozen hJ4.rs 4; have rf5 := blk_frozen hJ4.rs 5; have hE := Lib.hid hJ4.done)
          all_goals
            go_wp2
            refine bodyPost_ret (results_ct rfl _ _ w.heap.size 40 (clCells c.i c.s c.gr c.pg c.u (.slice As c.sc.length cs)) (0, 0) _ rfl hE.out.1 hu40 rfl (by kernel_rfl)) rfl ?_
            obtain ⟨h1, h2, h3, h4, h5, h6, h7⟩ := HR.out
            have hn : (numC (checkL c) == 0) = checkL c := by cases checkL c <;> rfl
            refine ⟨_, ?_, by rw [← h6]; exact hE.out.2.1, hE.out.2.2⟩
            rw [← h1, ← h2, ← h3, ← h4, ← h5, ← hn.trans h7]
            rfl
    · rename_i he
      have hkp' : urlform_Parse.f kp a0 = some ((parse a0.data.toList).1.map mk34, (parse a0.data.toList).2.1, (parse a0.data.toList).2.2) := hkp
      simp only [flatC, zC, Option.some.injEq, Prod.mk.injEq] at h
      obtain ⟨rfl, rfl, rfl, rfl, rfl, rfl, rfl⟩ := h
      obtain ⟨L, hL⟩ : ∃ L, (parse a0.data.toList).1.map mk34 = L := ⟨_, rfl⟩
      obtain ⟨pl, hpl⟩ : ∃ pl, (parse a0.data.toList).2.2 = pl := ⟨_, rfl⟩
      obtain ⟨ec, hec⟩ : ∃ ec, (parse a0.data.toList).2.1 = ec := ⟨_, rfl⟩
      rw [hL, hpl, hec] at hkp'
      rw [hec] at he
      have hne : (ec == 0) = false := beq_eq_false_iff_ne.2 he
      clear hkp hec hL hpl
      have hu40 := Tryz.underlying40
      go_enter Tryz.func51, Tryz.ntmps51
      go_wp2_with (go_at_call 82; refine (urlform_Parse.calls kp a0 _ _ _ _ hkp').mono ?_; rintro e w1 ⟨v0, rfl, ho, hb⟩; obtain ⟨Af, cf, rfl⟩ := Kd.R_slice ho; obtain ⟨hC, hZ⟩ := line_first w w1 Af cf L hb ho; clear ho hb; have cc0 := hC.c0; have cc1 := hC.c1; have cc2 := hC.c2; have cc3 := hC.c3; have cc4 := hC.c4; have cc5 := hC.c5; have rc0 := blk_cell hZ 0; have rc1 := blk_cell hZ 1; have rc2 := blk_cell hZ 2; have rc3 := blk_cell hZ 3; have rc4 := blk_cell hZ 4; have rc5 := blk_cell hZ 5; have rf0 := blk_frozen hZ 0; have rf1 := blk_frozen hZ 1; have rf2 := blk_frozen hZ 2; have rf3 := blk_frozen hZ 3; have rf4 := blk_frozen hZ 4; have rf5 := blk_frozen hZ 5)
      have hblk := blk_put (blk_put (blk_put (blk_put (blk_put (blk_put hZ 0 (.string ⟨#[]⟩) rfl) 1 (.string ⟨#[]⟩) rfl) 2 (.int .i64 0) rfl) 3 (.bool false) rfl) 4 (.string ⟨#[]⟩) rfl) 5 (.slice none 0 0) rfl
      refine bodyPost_ret (results_ct rfl _ _ w.heap.size 40 (clCells ⟨#[]⟩ ⟨#[]⟩ 0 false ⟨#[]⟩ (.slice none 0 0)) (0, 0) _ rfl hblk hu40 rfl (by kernel_rfl)) rfl ?_
      have hg : w.heap.size ≤ w.heap.size := Nat.le_refl _
      exact ⟨_, rfl, Kd.R_nil _ _ _ _ _, below_set (below_set (below_set (below_set (below_set (below_set hC.o hg) hg) hg) hg) hg) hg⟩
  · cases h
end Go.Proofs.YtmimipgmhgalaaaGreatDoor.PAll
end
section
namespace Go.Proofs.YtmimipgmhgalaaaGreatDoor.PAll
open Go.RowKit Go.Proofs.YtmimipgmhgalaaaGreatDoorW.PrintWords Go.Proofs.YtmimipgmhgalaaaGreatDoorW.PrintLast Go.Proofs.YtmimipgmhgalaaaGreatDoorW.PrintMore
attribute [local go_sem] max2_int min2_int max_two min_two max_three min_three max_four min_four
set_option linter.unusedVariables false
set_option linter.unusedSimpArgs false
def client_copied.f (a0_0 : ByteArray) (a0_1 : ByteArray) (a0_2 : Int) (a0_3 : Bool) (a0_4 : ByteArray) (l0_5 : List ByteArray) : Option (ByteArray × ByteArray × Int × Bool × ByteArray × List ByteArray) := (slices_Clone_string_string.f l0_5).bind fun t145 => (some (a0_0, a0_1, a0_2, a0_3, a0_4, t145))
set_option maxHeartbeats 8000000 in
set_option maxRecDepth 100000 in
theorem client_copied.calls (a0_0 : ByteArray) (a0_1 : ByteArray) (a0_2 : Int) (a0_3 : Bool) (a0_4 : ByteArray) (A0_5 : Option Addr) (c0_5 : Nat) (l0_5 : List ByteArray) (r1 : ByteArray) (r2 : ByteArray) (r3 : Int) (r4 : Bool) (r5 : ByteArray) (r6 : List ByteArray) (w : World) (hr0_5 : Kd.C Kd.string w A0_5 l0_5.length l0_5) (hc0_5 : l0_5.length ≤ c0_5) (h : client_copied.f a0_0 a0_1 a0_2 a0_3 a0_4 l0_5 = some (r1, r2, r3, r4, r5, r6)) :
 Calls Tryz.prog 61 #[.agg #[.string a0_0, .string a0_1, .int .i64 a0_2, .bool a0_3, .string a0_4, .slice A0_5 l0_5.length c0_5]] w fun e w' => ∃ v5_ : Value, e = .returned (.agg #[.string r1, .string r2, .int .i64 r3, .bool r4, .string r5, v5_]) ∧ Kd.R Kd.string 9 w' w.heap.size (fun _ => True) v5_ r6 ∧ Below w.heap.size w w' := by
 have hu40 := Tryz.underlying40
 have HR0_5 := Aside0.mk hr0_5
 have HC0_5 := Aside0.mk hc0_5
 clear hr0_5 hc0_5
 have HB := Aside0.mk (Below.refl w.heap.size w)
 have H : ((slices_Clone_string_string.f l0_5).bind fun t145 => (some (a0_0, a0_1, a0_2, a0_3, a0_4, t145))) = some (r1, r2, r3, r4, r5, r6) := h
 clear h
 replace H := Option.bind_eq_some_iff.mp H
 obtain ⟨t145, A20, H⟩ := H
 replace H : (some (a0_0, a0_1, a0_2, a0_3, a0_4, t145)) = some (r1, r2, r3, r4, r5, r6) := H
 have A2 := Aside0.mk A20
 clear A20
 simp only [Option.some.injEq, Prod.mk.injEq] at H
 obtain ⟨rfl, rfl, rfl, rfl, rfl, rfl⟩ := H
 go_enter Tryz.func61, Tryz.ntmps61
 go_wp2_with (first | ((with_reducible refine gate_dst (N := 1) rfl ?_); refine box_event (by rfl) (N := 1) (by rfl) (cs := #[.string a0_0, .string a0_1, .int .i64 a0_2, .bool a0_3, .string a0_4, .slice A0_5 l0_5.length c0_5]) (t := 40) (by go_simp) ?_; intro gb143 hg w3 hbox hb; have BK143 := Aside0.mk hbox; have GW143 := Aside0.mk ((by rw [hg]; exact (below_size HB.out) : w.heap.size ≤ gb143)); have GE143 := Aside0.mk ((by rw [hg]; exact (below_size HB.out) : w.heap.size ≤ gb143)); replace HB := Aside0.mk (below_step HB.out hb); clear hb hbox hg) | ((with_reducible refine gate_dst (N := 2) rfl ?_); refine box_event (by rfl) (N := 2) (by rfl) (cs := #[.string (⟨#[]⟩ : ByteArray), .string (⟨#[]⟩ : ByteArray), .int .i64 0, .bool false, .string (⟨#[]⟩ : ByteArray), .slice none 0 0]) (t := 40) (by go_simp) ?_; intro gb144 hg w4 hbox hb; have BK144 := Aside0.mk hbox; have GW144 := Aside0.mk ((by rw [hg]; exact (below_size HB.out) : w.heap.size ≤ gb144)); have GE144 := Aside0.mk ((by rw [hg]; exact (below_size HB.out) : w.heap.size ≤ gb144)); replace HB := Aside0.mk (below_step HB.out hb); have NB143_144 := Aside0.mk ((by rw [hg]; exact Nat.ne_of_lt (blk_lt (g := gb143) (o := .cells #[.string a0_0, .string a0_1, .int .i64 a0_2, .bool a0_3, .string a0_4, .slice A0_5 l0_5.length c0_5] 40 (0, 0)) BK143.out) : gb143 ≠ gb144)); have NB144_143 := Aside0.mk ((by rw [hg]; exact Nat.ne_of_gt (blk_lt (g := gb143) (o := .cells #[.string a0_0, .string a0_1, .int .i64 a0_2, .bool a0_3, .string a0_4, .slice A0_5 l0_5.length c0_5] 40 (0, 0)) BK143.out) : gb144 ≠ gb143)); replace BK143 := Aside0.mk (blk_below (g := gb143) (o := .cells #[.string a0_0, .string a0_1, .int .i64 a0_2, .bool a0_3, .string a0_4, .slice A0_5 l0_5.length c0_5] 40 (0, 0)) BK143.out hb); clear hb hbox hg; have hnb5 := NB143_144.out; have hnc5 := NB144_143.out; obtain ⟨hcz6_0, hcz6_1, hcz6_2, hcz6_3, hcz6_4, hcz6_5, hfz6_0, hfz6_1, hfz6_2, hfz6_3, hfz6_4, hfz6_5⟩ := cz6_ BK143.out) | ((with_reducible refine gate_callee (f := 93) rfl ?_); refine goesL_ (some 5) rfl rfl Tryz.func93 (by kernel_rfl) rfl #[.slice A0_5 l0_5.length c0_5] rfl (by ((try simp only [List.map_toArray, List.map_cons, List.map_nil]); (rfl))) ?_; (with_reducible refine (slices_Clone_string_string.calls _ _ l0_5 t145 _ ?side1 ?side2 A2.out).mono ?_); (case side1 => repeat (exact (Kd.C_below HR0_5.out HB.out))); (case side2 => exact HC0_5.out); rintro e w7 ⟨v146, rfl, ho0, hb⟩; refine ⟨_, rfl, ?_⟩; have HO147 := Aside0.mk (Kd.R_lower ho0 (below_size HB.out)); replace BK143 := Aside0.mk (blk_below (g := gb143) (o := .cells #[.string a0_0, .string a0_1, .int .i64 a0_2, .bool a0_3, .string a0_4, .slice A0_5 l0_5.length c0_5] 40 (0, 0)) BK143.out hb); replace BK144 := Aside0.mk (blk_below (g := gb144) (o := .cells #[.string (⟨#[]⟩ : ByteArray), .string (⟨#[]⟩ : ByteArray), .int .i64 0, .bool false, .string (⟨#[]⟩ : ByteArray), .slice none 0 0] 40 (0, 0)) BK144.out hb); replace HB := Aside0.mk (below_step HB.out hb); clear hb ho0; obtain ⟨Ao8, co8, eo8⟩ := Kd.R_slice HO147.out; subst eo8; obtain ⟨hcz9_0, hcz9_1, hcz9_2, hcz9_3, hcz9_4, hcz9_5, hfz9_0, hfz9_1, hfz9_2, hfz9_3, hfz9_4, hfz9_5⟩ := cz6_ BK143.out; obtain ⟨hcz10_0, hcz10_1, hcz10_2, hcz10_3, hcz10_4, hcz10_5, hfz10_0, hfz10_1, hfz10_2, hfz10_3, hfz10_4, hfz10_5⟩ := cz6_ BK144.out))
 refine bodyPost_ret (results_cell_row rfl _ _ gb144 40 #[.string a0_0, .string a0_1, .int .i64 a0_2, .bool a0_3, .string a0_4, .slice Ao8 t145.length co8] (0, 0) _ rfl (by (with_reducible repeat (first | refine blk_drewN ?_ _  | refine blk_drew ?_  | refine blk_alloc ?_ _)); refine blk_put (cs := #[.string a0_0, .string a0_1, .int .i64 a0_2, .bool a0_3, .string a0_4, .slice none 0 0]) ?_ 5 _ rfl; (with_reducible repeat (first | refine blk_drewN ?_ _  | refine blk_drew ?_  | refine blk_alloc ?_ _)); refine blk_put (cs := #[.string a0_0, .string a0_1, .int .i64 a0_2, .bool a0_3, .string (⟨#[]⟩ : ByteArray), .slice none 0 0]) ?_ 4 _ rfl; (with_reducible repeat (first | refine blk_drewN ?_ _  | refine blk_drew ?_  | refine blk_alloc ?_ _)); refine blk_put (cs := #[.string a0_0, .string a0_1, .int .i64 a0_2, .bool false, .string (⟨#[]⟩ : ByteArray), .slice none 0 0]) ?_ 3 _ rfl; (with_reducible repeat (first | refine blk_drewN ?_ _  | refine blk_drew ?_  | refine blk_alloc ?_ _)); refine blk_put (cs := #[.string a0_0, .string a0_1, .int .i64 0, .bool false, .string (⟨#[]⟩ : ByteArray), .slice none 0 0]) ?_ 2 _ rfl; (with_reducible repeat (first | refine blk_drewN ?_ _  | refine blk_drew ?_  | refine blk_alloc ?_ _)); refine blk_put (cs := #[.string a0_0, .string (⟨#[]⟩ : ByteArray), .int .i64 0, .bool false, .string (⟨#[]⟩ : ByteArray), .slice none 0 0]) ?_ 1 _ rfl; (with_reducible repeat (first | refine blk_drewN ?_ _  | refine blk_drew ?_  | refine blk_alloc ?_ _)); refine blk_put (cs := #[.string (⟨#[]⟩ : ByteArray), .string (⟨#[]⟩ : ByteArray), .int .i64 0, .bool false, .string (⟨#[]⟩ : ByteArray), .slice none 0 0]) ?_ 0 _ rfl; (with_reducible repeat (first | refine blk_drewN ?_ _  | refine blk_drew ?_  | refine blk_alloc ?_ _)); refine blk_far ?_ NB144_143.out _; (with_reducible repeat (first | refine blk_drewN ?_ _  | refine blk_drew ?_  | refine blk_alloc ?_ _)); exact BK144.out) Tryz.underlying40 rfl (by kernel_rfl)) rfl ?_
 exact ⟨_, rfl, by (with_reducible repeat (first | apply Kd.R_alloc  | apply Kd.R_drewN  | apply Kd.R_drew)); exact Kd.R_mono (R_far6 (Kd.R_far (p := ⟨gb143, 5, none⟩) (Kd.R_types (Kd.R_types HO147.out BK143.out (by decide)) BK144.out (by decide)) (fun _ hk => hk.1.2) (.slice Ao8 t145.length co8)) (fun _ hk => hk.2)) (fun _ hk => trivial), by (repeat (with_reducible first | exact HB.out | refine below_set ?_ GE143.out | refine below_set ?_ GE144.out))⟩
def client_Find.l0 : Nat → ByteArray → List (S40) → Int → Int → Option (ByteArray × ByteArray × Int × Bool × ByteArray × List ByteArray × Bool)
 | 0, _, _, _, _ => none
 | k + 1, x1, x8, x9, x10 => if x10 < x9 then (if 0 ≤ x10 then (if x10 < (x8.length : Int) then (if ((rd_T40 x8 x10).f0).toList = x1.toList then ((client_copied.f ((rd_T40 x8 x10).f0) ((rd_T40 x8 x10).f1) ((rd_T40 x8 x10).f2) ((rd_T40 x8 x10).f3) ((rd_T40 x8 x10).f4) ((rd_T40 x8 x10).f5)).bind fun bt151 => (some (bt151.1, bt151.2.1, bt151.2.2.1, bt151.2.2.2.1, bt151.2.2.2.2.1, bt151.2.2.2.2.2, true))) else (client_Find.l0 k x1 x8 x9 (wrap64 (x10 + 1)))) else (none)) else (none)) else (some ((⟨#[]⟩ : ByteArray), (⟨#[]⟩ : ByteArray), 0, false, (⟨#[]⟩ : ByteArray), ([] : List ByteArray), false))
def client_Find.f (k : Nat) (l0 : List (S40)) (a1 : ByteArray) : Option (ByteArray × ByteArray × Int × Bool × ByteArray × List ByteArray × Bool) := client_Find.l0 k a1 l0 (l0.length : Int) 0
set_option maxHeartbeats 8000000 in
set_option maxRecDepth 100000 in
theorem client_Find.calls (k : Nat) (A0 : Option Addr) (c0 : Nat) (l0 : List (S40)) (a1 : ByteArray) (r1 : ByteArray) (r2 : ByteArray) (r3 : Int) (r4 : Bool) (r5 : ByteArray) (r6 : List ByteArray) (r7 : Bool) (w : World) (hr0 : Kd.C k40 w A0 l0.length l0) (hc0 : l0.length ≤ c0) (h : client_Find.f k l0 a1 = some (r1, r2, r3, r4, r5, r6, r7)) :
 Calls Tryz.prog 29 #[.slice A0 l0.length c0, .string a1] w fun e w' => ∃ v5_ : Value, e = .returned (.tuple #[.agg #[.string r1, .string r2, .int .i64 r3, .bool r4, .string r5, v5_], .bool r7]) ∧ Kd.R Kd.string 9 w' w.heap.size (fun _ => True) v5_ r6 ∧ Below w.heap.size w w' := by
 have hu40 := Tryz.underlying40
 have HR0 := Aside0.mk hr0
 have HC0 := Aside0.mk hc0
 clear hr0 hc0
 have HB := Aside0.mk (Below.refl w.heap.size w)
 have H : (client_Find.l0 k a1 l0 (l0.length : Int) 0) = some (r1, r2, r3, r4, r5, r6, r7) := h
 clear h
 have H' := Aside0.mk H
 clear H
 go_enter Tryz.func29, Tryz.ntmps29
 go_wp2_with (first | ((with_reducible refine gate_dst (N := 4) rfl ?_); refine box_event (by rfl) (N := 4) (by rfl) (cs := #[.string (⟨#[]⟩ : ByteArray), .string (⟨#[]⟩ : ByteArray), .int .i64 0, .bool false, .string (⟨#[]⟩ : ByteArray), .slice none 0 0]) (t := 40) (by go_simp) ?_; intro gb148 hg w3 hbox hb; have BK148 := Aside0.mk hbox; have GW148 := Aside0.mk ((by rw [hg]; exact (below_size HB.out) : w.heap.size ≤ gb148)); have GE148 := Aside0.mk ((by rw [hg]; exact (below_size HB.out) : w.heap.size ≤ gb148)); replace HB := Aside0.mk (below_step HB.out hb); clear hb hbox hg))
 go_loopg [10] k (fun kq v10 w' => ∃ (x10_1 : Int) (x149000_1 : ByteArray) (x149001_1 : ByteArray) (x149002_1 : Int) (x149003_1 : Bool) (x149004_1 : ByteArray), v10 = .int .i64 x10_1 ∧ Aside0 (client_Find.l0 kq a1 l0 (l0.length : Int) x10_1 = some (r1, r2, r3, r4, r5, r6, r7)) ∧ Aside0 (kq ≤ k) ∧ Aside0 (w'.heap[gb148]? = some (.cells #[.string x149000_1, .string x149001_1, .int .i64 x149002_1, .bool x149003_1, .string x149004_1, (.slice none 0 0)] 40 (0, 0))) ∧ Aside0 (Below w.heap.size w w'))
 case atStart => exact ⟨(0), ((⟨#[]⟩ : ByteArray)), ((⟨#[]⟩ : ByteArray)), (0), (false), ((⟨#[]⟩ : ByteArray)), rfl, H', ⟨Nat.le_refl _⟩, ⟨BK148.out⟩, ⟨HB.out⟩⟩
 case round =>
  clear H'
  obtain ⟨x10_1, x149000_1, x149001_1, x149002_1, x149003_1, x149004_1, rfl, HA, HK1, BK148, HB⟩ := hrel
  cases gk with
  | zero => exact absurd HA.out (by simp [client_Find.l0])
  | succ k1 =>
   have H := HA.out
   clear HA
   simp only [client_Find.l0] at H
   by_cases c4 : x10_1 < (l0.length : Int)
   · rw [if_pos c4] at H
     have c4b0 : decide (x10_1 < (l0.length : Int)) = true := decide_eq_true c4
     clear c4
     by_cases c5 : 0 ≤ x10_1
     · rw [if_pos c5] at H
       have c5b0 : decide (0 ≤ x10_1) = true := decide_eq_true c5
       clear c5
       by_cases c6 : x10_1 < (l0.length : Int)
       · rw [if_pos c6] at H
         have c6b0 : decide (x10_1 < (l0.length : Int)) = true := decide_eq_true c6
         clear c6
         by_cases c7 : ((rd_T40 l0 x10_1).f0).toList = a1.toList
         · rw [if_pos c7] at H
           have c7b0 : (((rd_T40 l0 x10_1).f0).toList == a1.toList) = true := beq_iff_eq.mpr c7
           have c7b1 : (((rd_T40 l0 x10_1).f0).toList != a1.toList) = false := bne_eq_false_iff_eq.mpr c7
           clear c7
           replace H := Option.bind_eq_some_iff.mp H
           obtain ⟨⟨t151, t152, t153, t154, t155, t156⟩, A80, H⟩ := H
           replace H : (some (t151, t152, t153, t154, t155, t156, true)) = some (r1, r2, r3, r4, r5, r6, r7) := H
           have A8 := Aside0.mk A80
           clear A80
           simp only [Option.some.injEq, Prod.mk.injEq] at H
           obtain ⟨rfl, rfl, rfl, rfl, rfl, rfl, rfl⟩ := H
           have p149 : 0 ≤ (x10_1 : Int) := of_decide_eq_true (by assumption)
           have q149 : x10_1 < (l0.length : Int) := of_decide_eq_true (by assumption)
           obtain ⟨ad149, A149_5, c149_5, e149, hx149_0, hx149_1, hx149_2, hx149_3, hx149_4, hx149_5, hl149_5, hi149_5⟩ := at_T40 HR0.out x10_1 p149 q149
           cases e149
           replace hx149_0 := (HB.out.cell (World.block_lt_of_cell? w _ hx149_0)).trans hx149_0
           replace hx149_1 := (HB.out.cell (World.block_lt_of_cell? w _ hx149_1)).trans hx149_1
           replace hx149_2 := (HB.out.cell (World.block_lt_of_cell? w _ hx149_2)).trans hx149_2
           replace hx149_3 := (HB.out.cell (World.block_lt_of_cell? w _ hx149_3)).trans hx149_3
           replace hx149_4 := (HB.out.cell (World.block_lt_of_cell? w _ hx149_4)).trans hx149_4
           replace hx149_5 := (HB.out.cell (World.block_lt_of_cell? w _ hx149_5)).trans hx149_5
           have HR149_5 := Aside0.mk hi149_5
           have HC149_5 := Aside0.mk hl149_5
           clear hi149_5 hl149_5
           replace p149 := eq_true p149
           replace q149 := eq_true q149
           go_wp2_with (first | ((with_reducible refine gate_dst (N := 7) rfl ?_); refine box_event (by rfl) (N := 7) (by rfl) (cs := #[.string (⟨#[]⟩ : ByteArray), .string (⟨#[]⟩ : ByteArray), .int .i64 0, .bool false, .string (⟨#[]⟩ : ByteArray), .slice none 0 0]) (t := 40) (by go_simp) ?_; intro gb150 hg w9 hbox hb; have BK150 := Aside0.mk hbox; have GW150 := Aside0.mk ((by rw [hg]; exact (below_size HB.out) : w.heap.size ≤ gb150)); have GE150 := Aside0.mk ((by rw [hg]; exact (below_size HB.out) : w.heap.size ≤ gb150)); replace HB := Aside0.mk (below_step HB.out hb); have NB148_150 := Aside0.mk ((by rw [hg]; exact Nat.ne_of_lt (blk_lt (g := gb148) (o := .cells #[.string x149000_1, .string x149001_1, .int .i64 x149002_1, .bool x149003_1, .string x149004_1, .slice none 0 0] 40 (0, 0)) BK148.out) : gb148 ≠ gb150)); have NB150_148 := Aside0.mk ((by rw [hg]; exact Nat.ne_of_gt (blk_lt (g := gb148) (o := .cells #[.string x149000_1, .string x149001_1, .int .i64 x149002_1, .bool x149003_1, .string x149004_1, .slice none 0 0] 40 (0, 0)) BK148.out) : gb150 ≠ gb148)); replace BK148 := Aside0.mk (blk_below (g := gb148) (o := .cells #[.string x149000_1, .string x149001_1, .int .i64 x149002_1, .bool x149003_1, .string x149004_1, .slice none 0 0] 40 (0, 0)) BK148.out hb); clear hb hbox hg; have hnb10 := NB150_148.out; have hnc10 := NB148_150.out; obtain ⟨hcz11_0, hcz11_1, hcz11_2, hcz11_3, hcz11_4, hcz11_5, hfz11_0, hfz11_1, hfz11_2, hfz11_3, hfz11_4, hfz11_5⟩ := cz6_ BK150.out) | ((with_reducible refine gate_callee (f := 61) rfl ?_); refine goesL_ (some 19) rfl rfl Tryz.func61 (by kernel_rfl) rfl #[.agg #[.string ((rd_T40 l0 x10_1).f0), .string ((rd_T40 l0 x10_1).f1), .int .i64 ((rd_T40 l0 x10_1).f2), .bool ((rd_T40 l0 x10_1).f3), .string ((rd_T40 l0 x10_1).f4), .slice A149_5 ((rd_T40 l0 x10_1).f5).length c149_5]] rfl (by ((try simp only [List.map_toArray, List.map_cons, List.map_nil]); (rfl))) ?_; (with_reducible refine (client_copied.calls ((rd_T40 l0 x10_1).f0) ((rd_T40 l0 x10_1).f1) ((rd_T40 l0 x10_1).f2) ((rd_T40 l0 x10_1).f3) ((rd_T40 l0 x10_1).f4) _ _ ((rd_T40 l0 x10_1).f5) t151 t152 t153 t154 t155 t156 _ ?side1 ?side2 A8.out).mono ?_); (case side1 => exact Kd.C_below HR149_5.out (by (repeat (with_reducible first | exact HB.out | refine below_set ?_ GE150.out)))); (case side2 => exact HC149_5.out); rintro e w12 ⟨v157, rfl, ho0, hb⟩; refine ⟨_, rfl, ?_⟩; have HO158 := Aside0.mk (Kd.R_lower ho0 (below_size (by (repeat (with_reducible first | exact HB.out | refine below_set ?_ GE150.out))))); replace BK148 := Aside0.mk (blk_below (g := gb148) (o := .cells #[.string x149000_1, .string x149001_1, .int .i64 x149002_1, .bool x149003_1, .string x149004_1, .slice none 0 0] 40 (0, 0)) (by (with_reducible repeat (first | refine blk_drewN ?_ _  | refine blk_drew ?_  | refine blk_alloc ?_ _)); refine blk_far ?_ NB148_150.out _; (with_reducible repeat (first | refine blk_drewN ?_ _  | refine blk_drew ?_  | refine blk_alloc ?_ _)); refine blk_far ?_ NB148_150.out _; (with_reducible repeat (first | refine blk_drewN ?_ _  | refine blk_drew ?_  | refine blk_alloc ?_ _)); refine blk_far ?_ NB148_150.out _; (with_reducible repeat (first | refine blk_drewN ?_ _  | refine blk_drew ?_  | refine blk_alloc ?_ _)); refine blk_far ?_ NB148_150.out _; (with_reducible repeat (first | refine blk_drewN ?_ _  | refine blk_drew ?_  | refine blk_alloc ?_ _)); refine blk_far ?_ NB148_150.out _; (with_reducible repeat (first | refine blk_drewN ?_ _  | refine blk_drew ?_  | refine blk_alloc ?_ _)); refine blk_far ?_ NB148_150.out _; (with_reducible repeat (first | refine blk_drewN ?_ _  | refine blk_drew ?_  | refine blk_alloc ?_ _)); exact BK148.out) hb); replace BK150 := Aside0.mk (blk_below (g := gb150) (o := .cells #[.string ((rd_T40 l0 x10_1).f0), .string ((rd_T40 l0 x10_1).f1), .int .i64 ((rd_T40 l0 x10_1).f2), .bool ((rd_T40 l0 x10_1).f3), .string ((rd_T40 l0 x10_1).f4), .slice A149_5 ((rd_T40 l0 x10_1).f5).length c149_5] 40 (0, 0)) (put6_ BK150.out _ _ _ _ _ _) hb); replace HB := Aside0.mk (below_step (by (repeat (with_reducible first | exact HB.out | refine below_set ?_ GE150.out))) hb); clear hb ho0; obtain ⟨hcz13_0, hcz13_1, hcz13_2, hcz13_3, hcz13_4, hcz13_5, hfz13_0, hfz13_1, hfz13_2, hfz13_3, hfz13_4, hfz13_5⟩ := cz6_ BK148.out; obtain ⟨Ao14, co14, eo14⟩ := Kd.R_slice HO158.out; subst eo14))
           refine bodyPost_ret (results_ct rfl _ _ gb148 40 #[.string t151, .string t152, .int .i64 t153, .bool t154, .string t155, .slice Ao14 t156.length co14] (0, 0) _ rfl (put6_ BK148.out _ _ _ _ _ _) Tryz.underlying40 rfl (by kernel_rfl)) rfl ?_
           exact ⟨_, rfl, by (with_reducible repeat (first | apply Kd.R_alloc  | apply Kd.R_drewN  | apply Kd.R_drew)); exact Kd.R_mono (R_far6 (Kd.R_types HO158.out BK148.out (by decide)) (fun _ hk => hk.2)) (fun _ hk => trivial), by (repeat (with_reducible first | exact HB.out | refine below_set ?_ GE148.out))⟩
         · rw [if_neg c7] at H
           have c7b0 : (((rd_T40 l0 x10_1).f0).toList == a1.toList) = false := beq_eq_false_iff_ne.mpr c7
           have c7b1 : (((rd_T40 l0 x10_1).f0).toList != a1.toList) = true := bne_iff_ne.mpr c7
           have H' := Aside0.mk H
           clear H
           have p149 : 0 ≤ (x10_1 : Int) := of_decide_eq_true (by assumption)
           have q149 : x10_1 < (l0.length : Int) := of_decide_eq_true (by assumption)
           obtain ⟨ad149, A149_5, c149_5, e149, hx149_0, hx149_1, hx149_2, hx149_3, hx149_4, hx149_5, hl149_5, hi149_5⟩ := at_T40 HR0.out x10_1 p149 q149
           cases e149
           replace hx149_0 := (HB.out.cell (World.block_lt_of_cell? w _ hx149_0)).trans hx149_0
           replace hx149_1 := (HB.out.cell (World.block_lt_of_cell? w _ hx149_1)).trans hx149_1
           replace hx149_2 := (HB.out.cell (World.block_lt_of_cell? w _ hx149_2)).trans hx149_2
           replace hx149_3 := (HB.out.cell (World.block_lt_of_cell? w _ hx149_3)).trans hx149_3
           replace hx149_4 := (HB.out.cell (World.block_lt_of_cell? w _ hx149_4)).trans hx149_4
           replace hx149_5 := (HB.out.cell (World.block_lt_of_cell? w _ hx149_5)).trans hx149_5
           have HR149_5 := Aside0.mk hi149_5
           have HC149_5 := Aside0.mk hl149_5
           clear hi149_5 hl149_5
           replace p149 := eq_true p149
           replace q149 := eq_true q149
           go_wp2_with (first | ((with_reducible refine gate_dst (N := 7) rfl ?_); refine box_event (by rfl) (N := 7) (by rfl) (cs := #[.string (⟨#[]⟩ : ByteArray), .string (⟨#[]⟩ : ByteArray), .int .i64 0, .bool false, .string (⟨#[]⟩ : ByteArray), .slice none 0 0]) (t := 40) (by go_simp) ?_; intro gb150 hg w15 hbox hb; have BK150 := Aside0.mk hbox; have GW150 := Aside0.mk ((by rw [hg]; exact (below_size HB.out) : w.heap.size ≤ gb150)); have GE150 := Aside0.mk ((by rw [hg]; exact (below_size HB.out) : w.heap.size ≤ gb150)); replace HB := Aside0.mk (below_step HB.out hb); have NB148_150 := Aside0.mk ((by rw [hg]; exact Nat.ne_of_lt (blk_lt (g := gb148) (o := .cells #[.string x149000_1, .string x149001_1, .int .i64 x149002_1, .bool x149003_1, .string x149004_1, .slice none 0 0] 40 (0, 0)) BK148.out) : gb148 ≠ gb150)); have NB150_148 := Aside0.mk ((by rw [hg]; exact Nat.ne_of_gt (blk_lt (g := gb148) (o := .cells #[.string x149000_1, .string x149001_1, .int .i64 x149002_1, .bool x149003_1, .string x149004_1, .slice none 0 0] 40 (0, 0)) BK148.out) : gb150 ≠ gb148)); replace BK148 := Aside0.mk (blk_below (g := gb148) (o := .cells #[.string x149000_1, .string x149001_1, .int .i64 x149002_1, .bool x149003_1, .string x149004_1, .slice none 0 0] 40 (0, 0)) BK148.out hb); clear hb hbox hg; have hnb16 := NB150_148.out; have hnc16 := NB148_150.out; obtain ⟨hcz17_0, hcz17_1, hcz17_2, hcz17_3, hcz17_4, hcz17_5, hfz17_0, hfz17_1, hfz17_2, hfz17_3, hfz17_4, hfz17_5⟩ := cz6_ BK150.out))
           go_roundg k1
           case measure => have := HK1.out; omega
           case rel => exact ⟨(wrap64 (x10_1 + 1)), (x149000_1), (x149001_1), (x149002_1), (x149003_1), (x149004_1), rfl, H', ⟨by have := HK1.out; omega⟩, ⟨by (with_reducible repeat (first | refine blk_drewN ?_ _  | refine blk_drew ?_  | refine blk_alloc ?_ _)); refine blk_far ?_ NB148_150.out _; (with_reducible repeat (first | refine blk_drewN ?_ _  | refine blk_drew ?_  | refine blk_alloc ?_ _)); refine blk_far ?_ NB148_150.out _; (with_reducible repeat (first | refine blk_drewN ?_ _  | refine blk_drew ?_  | refine blk_alloc ?_ _)); refine blk_far ?_ NB148_150.out _; (with_reducible repeat (first | refine blk_drewN ?_ _  | refine blk_drew ?_  | refine blk_alloc ?_ _)); refine blk_far ?_ NB148_150.out _; (with_reducible repeat (first | refine blk_drewN ?_ _  | refine blk_drew ?_  | refine blk_alloc ?_ _)); refine blk_far ?_ NB148_150.out _; (with_reducible repeat (first | refine blk_drewN ?_ _  | refine blk_drew ?_  | refine blk_alloc ?_ _)); refine blk_far ?_ NB148_150.out _; (with_reducible repeat (first | refine blk_drewN ?_ _  | refine blk_drew ?_  | refine blk_alloc ?_ _)); exact BK148.out⟩, ⟨by (repeat (with_reducible first | exact HB.out | refine below_set ?_ GE150.out))⟩⟩
       · rw [if_neg c6] at H
         exact absurd H (by simp)
     · rw [if_neg c5] at H
       exact absurd H (by simp)
   · rw [if_neg c4] at H
     have c4b0 : decide (x10_1 < (l0.length : Int)) = false := decide_eq_false c4
     clear c4
     simp only [Option.some.injEq, Prod.mk.injEq] at H
     obtain ⟨rfl, rfl, rfl, rfl, rfl, rfl, rfl⟩ := H
     obtain ⟨hcz18_0, hcz18_1, hcz18_2, hcz18_3, hcz18_4, hcz18_5, hfz18_0, hfz18_1, hfz18_2, hfz18_3, hfz18_4, hfz18_5⟩ := cz6_ BK148.out
     go_wp2
     refine bodyPost_ret (results_ct rfl _ _ gb148 40 #[.string (⟨#[]⟩ : ByteArray), .string (⟨#[]⟩ : ByteArray), .int .i64 0, .bool false, .string (⟨#[]⟩ : ByteArray), .slice none 0 0] (0, 0) _ rfl (put6_ BK148.out _ _ _ _ _ _) Tryz.underlying40 rfl (by kernel_rfl)) rfl ?_
     exact ⟨_, rfl, by (exact Kd.R_nil _ _ _ _ _), by (repeat (with_reducible first | exact HB.out | refine below_set ?_ GE148.out))⟩
mutual
def client_Parse.l0 : Nat → List (S40) → List ByteArray → Int → Int → Option ((List (S40)) × Int × Int)
 | 0, _, _, _, _ => none
 | k + 1, x5, x16, x17, x18 => if x18 < x17 then (if 0 ≤ x18 then (if x18 < (x16.length : Int) then (if (rdOf ByteArray.empty x16 x18).toList = ([] : List UInt8) then (client_Parse.j1 k x5 x18 (rdOf ByteArray.empty x16 x18) x16 x17 x18 true) else (if 0 < ((rdOf ByteArray.empty x16 x18).size : Int) then (client_Parse.j1 k x5 x18 (rdOf ByteArray.empty x16 x18) x16 x17 x18 ((bt (rdOf ByteArray.empty x16 x18) 0) == 35)) else (none))) else (none)) else (none)) else (some (x5, 0, 0))
def client_Parse.j1 : Nat → List (S40) → Int → ByteArray → List ByteArray → Int → Int → Bool → Option ((List (S40)) × Int × Int)
 | 0, _, _, _, _, _, _, _ => none
 | k + 1, x5, x6, x7, x16, x17, x18, x29 => if x29 = true then (client_Parse.l0 k x5 x16 x17 (wrap64 (x18 + 1))) else ((client_parseLine.f x7).bind fun bt163 => (if bt163.2.2.2.2.2.2 = true then ((client_Find.f k x5 bt163.1).bind fun bt173 => (if bt173.2.2.2.2.2.2 = true then (some (([] : List (S40)), 8, wrap64 (x6 + 1))) else (if (x5.length : Int) = 256 then (some (([] : List (S40)), 32, wrap64 (x6 + 1))) else (if x5.length < 1599289640401 then (client_Parse.l0 k (x5 ++ [(⟨bt163.1, bt163.2.1, bt163.2.2.1, bt163.2.2.2.1, bt163.2.2.2.2.1, bt163.2.2.2.2.2.1⟩ : S40)]) x16 x17 (wrap64 (x18 + 1))) else (none))))) else (some (([] : List (S40)), 110, wrap64 (x6 + 1)))))
end
def client_Parse.f (k : Nat) (a0 : ByteArray) : Option ((List (S40)) × Int × Int) := if (a0.size : Int) > 65536 then (some (([] : List (S40)), 1, 0)) else ((strings_Split.f a0 (⟨#[10]⟩ : ByteArray)).bind fun t159 => (client_Parse.l0 k ([] : List (S40)) t159 (t159.length : Int) 0))
set_option maxHeartbeats 8000000 in
set_option maxRecDepth 100000 in
theorem client_Parse.calls (k : Nat) (a0 : ByteArray) (r1 : List (S40)) (r2 : Int) (r3 : Int) (w : World) (h : client_Parse.f k a0 = some (r1, r2, r3)) :
 Calls Tryz.prog 22 #[.string a0] w fun e w' => ∃ v0_ : Value, e = .returned (.tuple #[v0_, .int .i64 r2, .int .i64 r3]) ∧ Kd.S k40 40 w' w.heap.size (fun _ => True) v0_ r1 ∧ Below w.heap.size w w' := by
 have hu40 := Tryz.underlying40
 have HB := Aside0.mk (Below.refl w.heap.size w)
 have H : (if (a0.size : Int) > 65536 then (some (([] : List (S40)), 1, 0)) else ((strings_Split.f a0 (⟨#[10]⟩ : ByteArray)).bind fun t159 => (client_Parse.l0 k ([] : List (S40)) t159 (t159.length : Int) 0))) = some (r1, r2, r3) := h
 clear h
 by_cases c2 : (a0.size : Int) > 65536
 · rw [if_pos c2] at H
   have c2b0 : decide (65536 < (a0.size : Int)) = true := decide_eq_true c2
   have c2b1 : decide (65536 < a0.size) = true := decide_eq_true (by omega)
   clear c2
   simp only [Option.some.injEq, Prod.mk.injEq] at H
   obtain ⟨rfl, rfl, rfl⟩ := H
   go_enter Tryz.func22, Tryz.ntmps22
   go_wp2
   go_ret3
   exact ⟨_, rfl, by (exact Kd.S_nil _ _ _ _ _), by (with_reducible exact HB.out)⟩
 · rw [if_neg c2] at H
   have c2b0 : decide (65536 < (a0.size : Int)) = false := decide_eq_false c2
   have c2b1 : decide (65536 < a0.size) = false := decide_eq_false (by omega)
   clear c2
   replace H := Option.bind_eq_some_iff.mp H
   obtain ⟨t159, A30, H⟩ := H
   replace H : (client_Parse.l0 k ([] : List (S40)) t159 (t159.length : Int) 0) = some (r1, r2, r3) := H
   have A3 := Aside0.mk A30
   clear A30
   have H' := Aside0.mk H
   clear H
   go_enter Tryz.func22, Tryz.ntmps22
   go_wp2_with (first | ((with_reducible refine gate_callee (f := 50) rfl ?_); refine goesL_ (some 16) rfl rfl Tryz.func50 (by kernel_rfl) rfl #[.string a0, .string (⟨#[10]⟩ : ByteArray)] rfl (by ((try simp only [List.map_toArray, List.map_cons, List.map_nil]); (rfl))) ?_; (with_reducible refine (strings_Split.calls a0 (⟨#[10]⟩ : ByteArray) t159 _ A3.out).mono ?_); rintro e w4 ⟨v160, rfl, ho0, hb⟩; refine ⟨_, rfl, ?_⟩; have HO161 := Aside0.mk (Kd.R_lower ho0 (below_size HB.out)); replace HB := Aside0.mk (below_step HB.out hb); clear hb ho0; obtain ⟨Ao5, co5, eo5⟩ := Kd.R_slice HO161.out; subst eo5))
   go_loopg [5, 18] k (fun kq v5 v18 w' => ∃ (x5_1 : List (S40)) (x18_1 : Int), v18 = .int .i64 x18_1 ∧ Aside0 (client_Parse.l0 kq x5_1 t159 (t159.length : Int) x18_1 = some (r1, r2, r3)) ∧ Aside0 (kq ≤ k) ∧ Aside0 (Kd.S k40 40 w' w.heap.size (fun k_ => some k_ ≠ ((.slice Ao5 t159.length co5) : Value).ownBlock) v5 x5_1) ∧ Aside0 (Kd.R Kd.string 9 w' w.heap.size (fun _ => True) (.slice Ao5 t159.length co5) t159) ∧ Aside0 (Below w.heap.size w w'))
   case atStart => exact ⟨(([] : List (S40))), (0), rfl, H', ⟨Nat.le_refl _⟩, ⟨by (exact Kd.S_nil _ _ _ _ _)⟩, ⟨HO161.out⟩, ⟨HB.out⟩⟩
   case round =>
    clear H' c2b0 c2b1
    obtain ⟨x5_1, x18_1, rfl, HA, HK1, HO_5, HO_16, HB⟩ := hrel
    cases gk with
    | zero => exact absurd HA.out (by simp [client_Parse.l0])
    | succ k1 =>
     have H := HA.out
     clear HA
     simp only [client_Parse.l0] at H
     by_cases c6 : x18_1 < (t159.length : Int)
     · rw [if_pos c6] at H
       have c6b0 : decide (x18_1 < (t159.length : Int)) = true := decide_eq_true c6
       clear c6
       by_cases c7 : 0 ≤ x18_1
       · rw [if_pos c7] at H
         have c7b0 : decide (0 ≤ x18_1) = true := decide_eq_true c7
         clear c7
         by_cases c8 : x18_1 < (t159.length : Int)
         · rw [if_pos c8] at H
           have c8b0 : decide (x18_1 < (t159.length : Int)) = true := decide_eq_true c8
           clear c8
           have HC9 := Aside0.mk H
           clear H
           have p162 : 0 ≤ (x18_1 : Int) := of_decide_eq_true (by assumption)
           have q162 : x18_1 < (t159.length : Int) := of_decide_eq_true (by assumption)
           obtain ⟨ad162, e162, hx162_0⟩ := Kd.at_string (Kd.R_reads' HO_16.out).2.2 x18_1 p162 q162
           cases e162
           replace p162 := eq_true p162
           replace q162 := eq_true q162
           go_upto_region 7 with (fail)
           go_cut [29] (fun v29 wc => ∃ (kq : Nat) (x29_8 : Bool), v29 = .bool x29_8 ∧ Aside0 (client_Parse.j1 kq x5_1 x18_1 (rdOf ByteArray.empty t159 x18_1) t159 (t159.length : Int) x18_1 x29_8 = some (r1, r2, r3)) ∧ Aside0 (kq ≤ k1) ∧ Aside0 (Kd.S k40 40 wc w.heap.size (fun k_ => some k_ ≠ ((.slice (some ad162) t159.length co5) : Value).ownBlock) u5 x5_1) ∧ Aside0 (Kd.R Kd.string 9 wc w.heap.size (fun _ => True) (.slice (some ad162) t159.length co5) t159) ∧ Aside0 (Below w.heap.size w wc))
           case first =>
            have H := HC9.out
            clear HC9
            by_cases c10 : (rdOf ByteArray.empty t159 x18_1).toList = ([] : List UInt8)
            · rw [if_pos c10] at H
              have c10b0 : ((rdOf ByteArray.empty t159 x18_1).toList == ([] : List UInt8)) = true := beq_iff_eq.mpr c10
              have c10b1 : ((rdOf ByteArray.empty t159 x18_1).toList != ([] : List UInt8)) = false := bne_eq_false_iff_eq.mpr c10
              clear c10
              have H' := Aside0.mk H
              clear H
              go_wp2
              go_meet
              case rel => exact ⟨_, (true), rfl, H', ⟨by have := HK1.out; (omega)⟩, ⟨HO_5.out⟩, ⟨HO_16.out⟩, ⟨HB.out⟩⟩
            · rw [if_neg c10] at H
              have c10b0 : ((rdOf ByteArray.empty t159 x18_1).toList == ([] : List UInt8)) = false := beq_eq_false_iff_ne.mpr c10
              have c10b1 : ((rdOf ByteArray.empty t159 x18_1).toList != ([] : List UInt8)) = true := bne_iff_ne.mpr c10
              by_cases c11 : 0 < ((rdOf ByteArray.empty t159 x18_1).size : Int)
              · rw [if_pos c11] at H
                have c11b0 : decide (0 < ((rdOf ByteArray.empty t159 x18_1).size : Int)) = true := decide_eq_true c11
                have c11b1 : decide (0 < (rdOf ByteArray.empty t159 x18_1).size) = true := decide_eq_true (by omega)
                clear c11
                have H' := Aside0.mk H
                clear H
                have p12 : 0 ≤ (0 : Int) := (by omega)
                have q12 : 0 < (rdOf ByteArray.empty t159 x18_1).size := (by have : (0 : Int) < ((rdOf ByteArray.empty t159 x18_1).size : Int) := of_decide_eq_true (by assumption); omega)
                have hx12 : ∀ h : 0 < (rdOf ByteArray.empty t159 x18_1).size, (((rdOf ByteArray.empty t159 x18_1)[0]'h).toNat : Int) = bt (rdOf ByteArray.empty t159 x18_1) 0 := bt_at (rdOf ByteArray.empty t159 x18_1) 0
                clear p12
                have qi12 : (0 < ((rdOf ByteArray.empty t159 x18_1).size : Int)) = True := eq_true (of_decide_eq_true (by assumption))
                replace q12 := eq_true q12
                go_wp2
                go_meet
                case rel => exact ⟨_, (((bt (rdOf ByteArray.empty t159 x18_1) 0) == 35)), rfl, H', ⟨by have := HK1.out; (omega)⟩, ⟨HO_5.out⟩, ⟨HO_16.out⟩, ⟨HB.out⟩⟩
              · rw [if_neg c11] at H
                exact absurd H (by simp)
           case rest =>
            clear HC9 c6b0 c7b0 c8b0 hx162_0 p162 q162
            obtain ⟨kq, x29_8, rfl, HA, HJ8, HO_5, HO_16, HB⟩ := hcut
            cases kq with
            | zero => exact absurd HA.out (by simp [client_Parse.j1])
            | succ kj8 =>
             have H := HA.out
             clear HA
             simp only [client_Parse.j1] at H
             by_cases c13 : x29_8 = true
             · subst c13
               have H1 : (client_Parse.l0 kj8 x5_1 t159 (t159.length : Int) (wrap64 (x18_1 + 1))) = some (r1, r2, r3) := by rw [if_pos rfl] at H; exact H
               clear H
               have H := H1
               clear H1
               have H' := Aside0.mk H
               clear H
               go_wp2
               go_roundg kj8
               case measure => have := HK1.out; have := HJ8.out; omega
               case rel => exact ⟨(x5_1), (wrap64 (x18_1 + 1)), rfl, H', ⟨by have := HK1.out; have := HJ8.out; omega⟩, ⟨HO_5.out⟩, ⟨HO_16.out⟩, ⟨HB.out⟩⟩
             · replace c13 := Bool.eq_false_iff.mpr c13
               subst c13
               have H1 : ((client_parseLine.f (rdOf ByteArray.empty t159 x18_1)).bind fun bt163 => (if bt163.2.2.2.2.2.2 = true then ((client_Find.f kj8 x5_1 bt163.1).bind fun bt173 => (if bt173.2.2.2.2.2.2 = true then (some (([] : List (S40)), 8, wrap64 (x18_1 + 1))) else (if (x5_1.length : Int) = 256 then (some (([] : List (S40)), 32, wrap64 (x18_1 + 1))) else (if x5_1.length < 1599289640401 then (client_Parse.l0 kj8 (x5_1 ++ [(⟨bt163.1, bt163.2.1, bt163.2.2.1, bt163.2.2.2.1, bt163.2.2.2.2.1, bt163.2.2.2.2.2.1⟩ : S40)]) t159 (t159.length : Int) (wrap64 (x18_1 + 1))) else (none))))) else (some (([] : List (S40)), 110, wrap64 (x18_1 + 1))))) = some (r1, r2, r3) := by rw [if_neg (show ¬ (false = true) by decide)] at H; exact H
               clear H
               have H := H1
               clear H1
               replace H := Option.bind_eq_some_iff.mp H
               obtain ⟨⟨t163, t164, t165, t166, t167, t168, t171⟩, A140, H⟩ := H
               replace H : (if t171 = true then ((client_Find.f kj8 x5_1 t163).bind fun bt173 => (if bt173.2.2.2.2.2.2 = true then (some (([] : List (S40)), 8, wrap64 (x18_1 + 1))) else (if (x5_1.length : Int) = 256 then (some (([] : List (S40)), 32, wrap64 (x18_1 + 1))) else (if x5_1.length < 1599289640401 then (client_Parse.l0 kj8 (x5_1 ++ [(⟨t163, t164, t165, t166, t167, t168⟩ : S40)]) t159 (t159.length : Int) (wrap64 (x18_1 + 1))) else (none))))) else (some (([] : List (S40)), 110, wrap64 (x18_1 + 1)))) = some (r1, r2, r3) := H
               have A14 := Aside0.mk A140
               clear A140
               by_cases c15 : t171 = true
               · subst c15
                 have H1 : ((client_Find.f kj8 x5_1 t163).bind fun bt173 => (if bt173.2.2.2.2.2.2 = true then (some (([] : List (S40)), 8, wrap64 (x18_1 + 1))) else (if (x5_1.length : Int) = 256 then (some (([] : List (S40)), 32, wrap64 (x18_1 + 1))) else (if x5_1.length < 1599289640401 then (client_Parse.l0 kj8 (x5_1 ++ [(⟨t163, t164, t165, t166, t167, t168⟩ : S40)]) t159 (t159.length : Int) (wrap64 (x18_1 + 1))) else (none))))) = some (r1, r2, r3) := by rw [if_pos rfl] at H; exact H
                 clear H
                 have H := H1
                 clear H1
                 replace H := Option.bind_eq_some_iff.mp H
                 obtain ⟨⟨t173, t174, t175, t176, t177, t178, t181⟩, A160, H⟩ := H
                 replace H : (if t181 = true then (some (([] : List (S40)), 8, wrap64 (x18_1 + 1))) else (if (x5_1.length : Int) = 256 then (some (([] : List (S40)), 32, wrap64 (x18_1 + 1))) else (if x5_1.length < 1599289640401 then (client_Parse.l0 kj8 (x5_1 ++ [(⟨t163, t164, t165, t166, t167, t168⟩ : S40)]) t159 (t159.length : Int) (wrap64 (x18_1 + 1))) else (none)))) = some (r1, r2, r3) := H
                 have A16 := Aside0.mk A160
                 clear A160
                 by_cases c17 : t181 = true
                 · subst c17
                   have H1 : (some (([] : List (S40)), 8, wrap64 (x18_1 + 1))) = some (r1, r2, r3) := by rw [if_pos rfl] at H; exact H
                   clear H
                   have H := H1
                   clear H1
                   simp only [Option.some.injEq, Prod.mk.injEq] at H
                   obtain ⟨rfl, rfl, rfl⟩ := H
                   go_wp2_with (first | ((with_reducible refine gate_callee (f := 51) rfl ?_); refine goesL_ (some 32) rfl rfl Tryz.func51 (by kernel_rfl) rfl #[.string (rdOf ByteArray.empty t159 x18_1)] rfl (by ((try simp only [List.map_toArray, List.map_cons, List.map_nil]); (rfl))) ?_; (with_reducible refine (client_parseLine.calls (rdOf ByteArray.empty t159 x18_1) t163 t164 t165 t166 t167 t168 true _ A14.out).mono ?_); rintro e w18 ⟨v169, rfl, ho0, hb⟩; refine ⟨_, rfl, ?_⟩; replace HO_5 := Aside0.mk (Kd.S_elder' HO_5.out (Kd.R_base ho0) hb); have HO170 := Aside0.mk (Kd.R_lower (Kd.R_new' ho0 (Kd.R_lt HO_16.out)) (below_size HB.out)); replace HO_16 := Aside0.mk (Kd.R_elder' HO_16.out (Kd.R_base ho0) hb); replace HB := Aside0.mk (below_step HB.out hb); clear hb ho0) | ((with_reducible refine gate_dst (N := 8) rfl ?_); refine box_event (by rfl) (N := 8) (by rfl) (cs := #[.string (⟨#[]⟩ : ByteArray), .string (⟨#[]⟩ : ByteArray), .int .i64 0, .bool false, .string (⟨#[]⟩ : ByteArray), .slice none 0 0]) (t := 40) (by go_simp) ?_; intro gb172 hg w19 hbox hb; replace HO_5 := Aside0.mk (Kd.S_below (Kd.S_elderB HO_5.out gb172 (Nat.le_of_eq hg.symm)) hb); replace HO_16 := Aside0.mk (Kd.R_below HO_16.out hb); replace HO170 := Aside0.mk (Kd.R_below HO170.out hb); have BK172 := Aside0.mk hbox; have GW172 := Aside0.mk ((by rw [hg]; exact (below_size HB.out) : w.heap.size ≤ gb172)); have GE172 := Aside0.mk ((by rw [hg]; exact (below_size HB.out) : w.heap.size ≤ gb172)); replace HB := Aside0.mk (below_step HB.out hb); clear hb hbox hg; obtain ⟨hcz20_0, hcz20_1, hcz20_2, hcz20_3, hcz20_4, hcz20_5, hfz20_0, hfz20_1, hfz20_2, hfz20_3, hfz20_4, hfz20_5⟩ := cz6_ BK172.out; obtain ⟨Ao21, co21, eo21⟩ := Kd.R_slice HO170.out; subst eo21; obtain ⟨Ao22, co22, eo22⟩ := Kd.S_slice HO_5.out; subst eo22) | ((with_reducible refine gate_callee (f := 29) rfl ?_); refine goesL_ (some 43) rfl rfl Tryz.func29 (by kernel_rfl) rfl #[.slice Ao22 x5_1.length co22, .string t163] rfl (by ((try simp only [List.map_toArray, List.map_cons, List.map_nil]); (rfl))) ?_; (with_reducible refine (client_Find.calls kj8 _ _ x5_1 t163 t173 t174 t175 t176 t177 t178 true _ ?side1 ?side2 A16.out).mono ?_); (case side1 => refine (Kd.S_reads' (e := 40) (base := w.heap.size) (ok := fun k_ => ((some k_ ≠ (.slice (some ad162) t159.length co5 : Value).ownBlock ∧ some k_ ≠ (.slice Ao21 t168.length co21 : Value).ownBlock) ∧ k_ ≠ gb172)) (n := x5_1.length) (c := co22) ?_).2.2; exact (Kd.S_mono (S_far6 (Kd.S_mono HO_5.out (fun k_ hk => (⟨hk, hk.2⟩ : _ ∧ k_ ≠ gb172))) (fun _ hk => hk.2)) (fun _ h_ => h_.1))); (case side2 => exact (Kd.S_reads' HO_5.out).2.1); rintro e w23 ⟨v179, rfl, ho0, hb⟩; refine ⟨_, rfl, ?_⟩; replace HO_5 := Aside0.mk (Kd.S_elder' (Kd.S_mono (S_far6 (Kd.S_mono HO_5.out (fun k_ hk => (⟨hk, hk.2⟩ : _ ∧ k_ ≠ gb172))) (fun _ hk => hk.2)) (fun _ h_ => h_.1)) (Kd.R_base ho0) hb); have HO180 := Aside0.mk (Kd.R_lower (Kd.R_new' (Kd.R_new' ho0 (Kd.R_lt (Kd.R_mono (R_far6 (Kd.R_types HO_16.out BK172.out (by decide)) (fun _ hk => hk.2)) (fun _ h_ => h_.1)))) (Kd.R_lt (Kd.R_mono (R_far6 (Kd.R_types HO170.out BK172.out (by decide)) (fun _ hk => hk.2)) (fun _ h_ => h_.1)))) (below_size (by (repeat (with_reducible first | exact HB.out | refine below_set ?_ GE172.out))))); replace HO_16 := Aside0.mk (Kd.R_elder' (Kd.R_mono (R_far6 (Kd.R_types HO_16.out BK172.out (by decide)) (fun _ hk => hk.2)) (fun _ h_ => h_.1)) (Kd.R_base ho0) hb); replace HO170 := Aside0.mk (Kd.R_elder' (Kd.R_mono (R_far6 (Kd.R_types HO170.out BK172.out (by decide)) (fun _ hk => hk.2)) (fun _ h_ => h_.1)) (Kd.R_base ho0) hb); replace BK172 := Aside0.mk (blk_below (g := gb172) (o := .cells #[.string t163, .string t164, .int .i64 t165, .bool t166, .string t167, .slice Ao21 t168.length co21] 40 (0, 0)) (put6_ BK172.out _ _ _ _ _ _) hb); replace HB := Aside0.mk (below_step (by (repeat (with_reducible first | exact HB.out | refine below_set ?_ GE172.out))) hb); clear hb ho0) | ((with_reducible refine gate_dst (N := 10) rfl ?_); refine box_event (by rfl) (N := 10) (by rfl) (cs := #[.string (⟨#[]⟩ : ByteArray), .string (⟨#[]⟩ : ByteArray), .int .i64 0, .bool false, .string (⟨#[]⟩ : ByteArray), .slice none 0 0]) (t := 40) (by go_simp) ?_; intro gb182 hg w24 hbox hb; replace HO_5 := Aside0.mk (Kd.S_below (Kd.S_elderB HO_5.out gb182 (Nat.le_of_eq hg.symm)) hb); replace HO_16 := Aside0.mk (Kd.R_below HO_16.out hb); replace HO170 := Aside0.mk (Kd.R_below HO170.out hb); replace HO180 := Aside0.mk (Kd.R_below HO180.out hb); have BK182 := Aside0.mk hbox; have GW182 := Aside0.mk ((by rw [hg]; exact (below_size HB.out) : w.heap.size ≤ gb182)); have GE182 := Aside0.mk ((by rw [hg]; exact (below_size HB.out) : w.heap.size ≤ gb182)); replace HB := Aside0.mk (below_step HB.out hb); have NB172_182 := Aside0.mk ((by rw [hg]; exact Nat.ne_of_lt (blk_lt (g := gb172) (o := .cells #[.string t163, .string t164, .int .i64 t165, .bool t166, .string t167, .slice Ao21 t168.length co21] 40 (0, 0)) BK172.out) : gb172 ≠ gb182)); have NB182_172 := Aside0.mk ((by rw [hg]; exact Nat.ne_of_gt (blk_lt (g := gb172) (o := .cells #[.string t163, .string t164, .int .i64 t165, .bool t166, .string t167, .slice Ao21 t168.length co21] 40 (0, 0)) BK172.out) : gb182 ≠ gb172)); replace BK172 := Aside0.mk (blk_below (g := gb172) (o := .cells #[.string t163, .string t164, .int .i64 t165, .bool t166, .string t167, .slice Ao21 t168.length co21] 40 (0, 0)) BK172.out hb); clear hb hbox hg; have hnb25 := NB182_172.out; have hnc25 := NB172_182.out; obtain ⟨hcz26_0, hcz26_1, hcz26_2, hcz26_3, hcz26_4, hcz26_5, hfz26_0, hfz26_1, hfz26_2, hfz26_3, hfz26_4, hfz26_5⟩ := cz6_ BK182.out; obtain ⟨Ao27, co27, eo27⟩ := Kd.R_slice HO180.out; subst eo27))
                   go_ret3
                   exact ⟨_, rfl, by (exact Kd.S_nil _ _ _ _ _), by (repeat (with_reducible first | exact HB.out | refine below_set ?_ GE182.out))⟩
                 · replace c17 := Bool.eq_false_iff.mpr c17
                   subst c17
                   have H1 : (if (x5_1.length : Int) = 256 then (some (([] : List (S40)), 32, wrap64 (x18_1 + 1))) else (if x5_1.length < 1599289640401 then (client_Parse.l0 kj8 (x5_1 ++ [(⟨t163, t164, t165, t166, t167, t168⟩ : S40)]) t159 (t159.length : Int) (wrap64 (x18_1 + 1))) else (none))) = some (r1, r2, r3) := by rw [if_neg (show ¬ (false = true) by decide)] at H; exact H
                   clear H
                   have H := H1
                   clear H1
                   by_cases c28 : (x5_1.length : Int) = 256
                   · rw [if_pos c28] at H
                     have c28b0 : ((x5_1.length : Int) == 256) = true := beq_iff_eq.mpr c28
                     have c28b1 : ((x5_1.length : Int) != 256) = false := bne_eq_false_iff_eq.mpr c28
                     clear c28
                     simp only [Option.some.injEq, Prod.mk.injEq] at H
                     obtain ⟨rfl, rfl, rfl⟩ := H
                     go_wp2_with (first | ((with_reducible refine gate_callee (f := 51) rfl ?_); refine goesL_ (some 32) rfl rfl Tryz.func51 (by kernel_rfl) rfl #[.string (rdOf ByteArray.empty t159 x18_1)] rfl (by ((try simp only [List.map_toArray, List.map_cons, List.map_nil]); (rfl))) ?_; (with_reducible refine (client_parseLine.calls (rdOf ByteArray.empty t159 x18_1) t163 t164 t165 t166 t167 t168 true _ A14.out).mono ?_); rintro e w29 ⟨v169, rfl, ho0, hb⟩; refine ⟨_, rfl, ?_⟩; replace HO_5 := Aside0.mk (Kd.S_elder' HO_5.out (Kd.R_base ho0) hb); have HO170 := Aside0.mk (Kd.R_lower (Kd.R_new' ho0 (Kd.R_lt HO_16.out)) (below_size HB.out)); replace HO_16 := Aside0.mk (Kd.R_elder' HO_16.out (Kd.R_base ho0) hb); replace HB := Aside0.mk (below_step HB.out hb); clear hb ho0) | ((with_reducible refine gate_dst (N := 8) rfl ?_); refine box_event (by rfl) (N := 8) (by rfl) (cs := #[.string (⟨#[]⟩ : ByteArray), .string (⟨#[]⟩ : ByteArray), .int .i64 0, .bool false, .string (⟨#[]⟩ : ByteArray), .slice none 0 0]) (t := 40) (by go_simp) ?_; intro gb172 hg w30 hbox hb; replace HO_5 := Aside0.mk (Kd.S_below (Kd.S_elderB HO_5.out gb172 (Nat.le_of_eq hg.symm)) hb); replace HO_16 := Aside0.mk (Kd.R_below HO_16.out hb); replace HO170 := Aside0.mk (Kd.R_below HO170.out hb); have BK172 := Aside0.mk hbox; have GW172 := Aside0.mk ((by rw [hg]; exact (below_size HB.out) : w.heap.size ≤ gb172)); have GE172 := Aside0.mk ((by rw [hg]; exact (below_size HB.out) : w.heap.size ≤ gb172)); replace HB := Aside0.mk (below_step HB.out hb); clear hb hbox hg; obtain ⟨hcz31_0, hcz31_1, hcz31_2, hcz31_3, hcz31_4, hcz31_5, hfz31_0, hfz31_1, hfz31_2, hfz31_3, hfz31_4, hfz31_5⟩ := cz6_ BK172.out; obtain ⟨Ao32, co32, eo32⟩ := Kd.R_slice HO170.out; subst eo32; obtain ⟨Ao33, co33, eo33⟩ := Kd.S_slice HO_5.out; subst eo33) | ((with_reducible refine gate_callee (f := 29) rfl ?_); refine goesL_ (some 43) rfl rfl Tryz.func29 (by kernel_rfl) rfl #[.slice Ao33 x5_1.length co33, .string t163] rfl (by ((try simp only [List.map_toArray, List.map_cons, List.map_nil]); (rfl))) ?_; (with_reducible refine (client_Find.calls kj8 _ _ x5_1 t163 t173 t174 t175 t176 t177 t178 false _ ?side1 ?side2 A16.out).mono ?_); (case side1 => refine (Kd.S_reads' (e := 40) (base := w.heap.size) (ok := fun k_ => ((some k_ ≠ (.slice (some ad162) t159.length co5 : Value).ownBlock ∧ some k_ ≠ (.slice Ao32 t168.length co32 : Value).ownBlock) ∧ k_ ≠ gb172)) (n := x5_1.length) (c := co33) ?_).2.2; exact (Kd.S_mono (S_far6 (Kd.S_mono HO_5.out (fun k_ hk => (⟨hk, hk.2⟩ : _ ∧ k_ ≠ gb172))) (fun _ hk => hk.2)) (fun _ h_ => h_.1))); (case side2 => exact (Kd.S_reads' HO_5.out).2.1); rintro e w34 ⟨v179, rfl, ho0, hb⟩; refine ⟨_, rfl, ?_⟩; replace HO_5 := Aside0.mk (Kd.S_elder' (Kd.S_mono (S_far6 (Kd.S_mono HO_5.out (fun k_ hk => (⟨hk, hk.2⟩ : _ ∧ k_ ≠ gb172))) (fun _ hk => hk.2)) (fun _ h_ => h_.1)) (Kd.R_base ho0) hb); have HO180 := Aside0.mk (Kd.R_lower (Kd.R_new' (Kd.R_new' ho0 (Kd.R_lt (Kd.R_mono (R_far6 (Kd.R_types HO_16.out BK172.out (by decide)) (fun _ hk => hk.2)) (fun _ h_ => h_.1)))) (Kd.R_lt (Kd.R_mono (R_far6 (Kd.R_types HO170.out BK172.out (by decide)) (fun _ hk => hk.2)) (fun _ h_ => h_.1)))) (below_size (by (repeat (with_reducible first | exact HB.out | refine below_set ?_ GE172.out))))); replace HO_16 := Aside0.mk (Kd.R_elder' (Kd.R_mono (R_far6 (Kd.R_types HO_16.out BK172.out (by decide)) (fun _ hk => hk.2)) (fun _ h_ => h_.1)) (Kd.R_base ho0) hb); replace HO170 := Aside0.mk (Kd.R_elder' (Kd.R_mono (R_far6 (Kd.R_types HO170.out BK172.out (by decide)) (fun _ hk => hk.2)) (fun _ h_ => h_.1)) (Kd.R_base ho0) hb); replace BK172 := Aside0.mk (blk_below (g := gb172) (o := .cells #[.string t163, .string t164, .int .i64 t165, .bool t166, .string t167, .slice Ao32 t168.length co32] 40 (0, 0)) (put6_ BK172.out _ _ _ _ _ _) hb); replace HB := Aside0.mk (below_step (by (repeat (with_reducible first | exact HB.out | refine below_set ?_ GE172.out))) hb); clear hb ho0) | ((with_reducible refine gate_dst (N := 10) rfl ?_); refine box_event (by rfl) (N := 10) (by rfl) (cs := #[.string (⟨#[]⟩ : ByteArray), .string (⟨#[]⟩ : ByteArray), .int .i64 0, .bool false, .string (⟨#[]⟩ : ByteArray), .slice none 0 0]) (t := 40) (by go_simp) ?_; intro gb182 hg w35 hbox hb; replace HO_5 := Aside0.mk (Kd.S_below (Kd.S_elderB HO_5.out gb182 (Nat.le_of_eq hg.symm)) hb); replace HO_16 := Aside0.mk (Kd.R_below HO_16.out hb); replace HO170 := Aside0.mk (Kd.R_below HO170.out hb); replace HO180 := Aside0.mk (Kd.R_below HO180.out hb); have BK182 := Aside0.mk hbox; have GW182 := Aside0.mk ((by rw [hg]; exact (below_size HB.out) : w.heap.size ≤ gb182)); have GE182 := Aside0.mk ((by rw [hg]; exact (below_size HB.out) : w.heap.size ≤ gb182)); replace HB := Aside0.mk (below_step HB.out hb); have NB172_182 := Aside0.mk ((by rw [hg]; exact Nat.ne_of_lt (blk_lt (g := gb172) (o := .cells #[.string t163, .string t164, .int .i64 t165, .bool t166, .string t167, .slice Ao32 t168.length co32] 40 (0, 0)) BK172.out) : gb172 ≠ gb182)); have NB182_172 := Aside0.mk ((by rw [hg]; exact Nat.ne_of_gt (blk_lt (g := gb172) (o := .cells #[.string t163, .string t164, .int .i64 t165, .bool t166, .string t167, .slice Ao32 t168.length co32] 40 (0, 0)) BK172.out) : gb182 ≠ gb172)); replace BK172 := Aside0.mk (blk_below (g := gb172) (o := .cells #[.string t163, .string t164, .int .i64 t165, .bool t166, .string t167, .slice Ao32 t168.length co32] 40 (0, 0)) BK172.out hb); clear hb hbox hg; have hnb36 := NB182_172.out; have hnc36 := NB172_182.out; obtain ⟨hcz37_0, hcz37_1, hcz37_2, hcz37_3, hcz37_4, hcz37_5, hfz37_0, hfz37_1, hfz37_2, hfz37_3, hfz37_4, hfz37_5⟩ := cz6_ BK182.out; obtain ⟨Ao38, co38, eo38⟩ := Kd.R_slice HO180.out; subst eo38))
                     go_ret3
                     exact ⟨_, rfl, by (exact Kd.S_nil _ _ _ _ _), by (repeat (with_reducible first | exact HB.out | refine below_set ?_ GE182.out))⟩
                   · rw [if_neg c28] at H
                     have c28b0 : ((x5_1.length : Int) == 256) = false := beq_eq_false_iff_ne.mpr c28
                     have c28b1 : ((x5_1.length : Int) != 256) = true := bne_iff_ne.mpr c28
                     by_cases c39 : x5_1.length < 1599289640401
                     · rw [if_pos c39] at H
                       have LMc39 := Aside0.mk c39
                       clear c39
                       obtain ⟨y183, hy183⟩ : ∃ y_ : List (S40), y_ = (x5_1 ++ [(⟨t163, t164, t165, t166, t167, t168⟩ : S40)]) := ⟨_, rfl⟩
                       replace H : (client_Parse.l0 kj8 y183 t159 (t159.length : Int) (wrap64 (x18_1 + 1))) = some (r1, r2, r3) := by (rw [hy183]; with_reducible exact H)
                       have Ny183 := Aside0.mk hy183
                       clear hy183
                       have H' := Aside0.mk H
                       clear H
                       go_wp2_with (first | ((with_reducible refine gate_callee (f := 51) rfl ?_); refine goesL_ (some 32) rfl rfl Tryz.func51 (by kernel_rfl) rfl #[.string (rdOf ByteArray.empty t159 x18_1)] rfl (by ((try simp only [List.map_toArray, List.map_cons, List.map_nil]); (rfl))) ?_; (with_reducible refine (client_parseLine.calls (rdOf ByteArray.empty t159 x18_1) t163 t164 t165 t166 t167 t168 true _ A14.out).mono ?_); rintro e w40 ⟨v169, rfl, ho0, hb⟩; refine ⟨_, rfl, ?_⟩; replace HO_5 := Aside0.mk (Kd.S_elder' HO_5.out (Kd.R_base ho0) hb); have HO170 := Aside0.mk (Kd.R_lower (Kd.R_new' ho0 (Kd.R_lt HO_16.out)) (below_size HB.out)); replace HO_16 := Aside0.mk (Kd.R_elder' HO_16.out (Kd.R_base ho0) hb); replace HB := Aside0.mk (below_step HB.out hb); clear hb ho0) | ((with_reducible refine gate_dst (N := 8) rfl ?_); refine box_event (by rfl) (N := 8) (by rfl) (cs := #[.string (⟨#[]⟩ : ByteArray), .string (⟨#[]⟩ : ByteArray), .int .i64 0, .bool false, .string (⟨#[]⟩ : ByteArray), .slice none 0 0]) (t := 40) (by go_simp) ?_; intro gb172 hg w41 hbox hb; replace HO_5 := Aside0.mk (Kd.S_below (Kd.S_elderB HO_5.out gb172 (Nat.le_of_eq hg.symm)) hb); replace HO_16 := Aside0.mk (Kd.R_below HO_16.out hb); replace HO170 := Aside0.mk (Kd.R_below HO170.out hb); have BK172 := Aside0.mk hbox; have GW172 := Aside0.mk ((by rw [hg]; exact (below_size HB.out) : w.heap.size ≤ gb172)); have GE172 := Aside0.mk ((by rw [hg]; exact (below_size HB.out) : w.heap.size ≤ gb172)); replace HB := Aside0.mk (below_step HB.out hb); clear hb hbox hg; obtain ⟨hcz42_0, hcz42_1, hcz42_2, hcz42_3, hcz42_4, hcz42_5, hfz42_0, hfz42_1, hfz42_2, hfz42_3, hfz42_4, hfz42_5⟩ := cz6_ BK172.out; obtain ⟨Ao43, co43, eo43⟩ := Kd.R_slice HO170.out; subst eo43; obtain ⟨Ao44, co44, eo44⟩ := Kd.S_slice HO_5.out; subst eo44) | ((with_reducible refine gate_callee (f := 29) rfl ?_); refine goesL_ (some 43) rfl rfl Tryz.func29 (by kernel_rfl) rfl #[.slice Ao44 x5_1.length co44, .string t163] rfl (by ((try simp only [List.map_toArray, List.map_cons, List.map_nil]); (rfl))) ?_; (with_reducible refine (client_Find.calls kj8 _ _ x5_1 t163 t173 t174 t175 t176 t177 t178 false _ ?side1 ?side2 A16.out).mono ?_); (case side1 => refine (Kd.S_reads' (e := 40) (base := w.heap.size) (ok := fun k_ => ((some k_ ≠ (.slice (some ad162) t159.length co5 : Value).ownBlock ∧ some k_ ≠ (.slice Ao43 t168.length co43 : Value).ownBlock) ∧ k_ ≠ gb172)) (n := x5_1.length) (c := co44) ?_).2.2; exact (Kd.S_mono (S_far6 (Kd.S_mono HO_5.out (fun k_ hk => (⟨hk, hk.2⟩ : _ ∧ k_ ≠ gb172))) (fun _ hk => hk.2)) (fun _ h_ => h_.1))); (case side2 => exact (Kd.S_reads' HO_5.out).2.1); rintro e w45 ⟨v179, rfl, ho0, hb⟩; refine ⟨_, rfl, ?_⟩; replace HO_5 := Aside0.mk (Kd.S_elder' (Kd.S_mono (S_far6 (Kd.S_mono HO_5.out (fun k_ hk => (⟨hk, hk.2⟩ : _ ∧ k_ ≠ gb172))) (fun _ hk => hk.2)) (fun _ h_ => h_.1)) (Kd.R_base ho0) hb); have HO180 := Aside0.mk (Kd.R_lower (Kd.R_new' (Kd.R_new' ho0 (Kd.R_lt (Kd.R_mono (R_far6 (Kd.R_types HO_16.out BK172.out (by decide)) (fun _ hk => hk.2)) (fun _ h_ => h_.1)))) (Kd.R_lt (Kd.R_mono (R_far6 (Kd.R_types HO170.out BK172.out (by decide)) (fun _ hk => hk.2)) (fun _ h_ => h_.1)))) (below_size (by (repeat (with_reducible first | exact HB.out | refine below_set ?_ GE172.out))))); replace HO_16 := Aside0.mk (Kd.R_elder' (Kd.R_mono (R_far6 (Kd.R_types HO_16.out BK172.out (by decide)) (fun _ hk => hk.2)) (fun _ h_ => h_.1)) (Kd.R_base ho0) hb); replace HO170 := Aside0.mk (Kd.R_elder' (Kd.R_mono (R_far6 (Kd.R_types HO170.out BK172.out (by decide)) (fun _ hk => hk.2)) (fun _ h_ => h_.1)) (Kd.R_base ho0) hb); replace BK172 := Aside0.mk (blk_below (g := gb172) (o := .cells #[.string t163, .string t164, .int .i64 t165, .bool t166, .string t167, .slice Ao43 t168.length co43] 40 (0, 0)) (put6_ BK172.out _ _ _ _ _ _) hb); replace HB := Aside0.mk (below_step (by (repeat (with_reducible first | exact HB.out | refine below_set ?_ GE172.out))) hb); clear hb ho0) | ((with_reducible refine gate_dst (N := 10) rfl ?_); refine box_event (by rfl) (N := 10) (by rfl) (cs := #[.string (⟨#[]⟩ : ByteArray), .string (⟨#[]⟩ : ByteArray), .int .i64 0, .bool false, .string (⟨#[]⟩ : ByteArray), .slice none 0 0]) (t := 40) (by go_simp) ?_; intro gb182 hg w46 hbox hb; replace HO_5 := Aside0.mk (Kd.S_below (Kd.S_elderB HO_5.out gb182 (Nat.le_of_eq hg.symm)) hb); replace HO_16 := Aside0.mk (Kd.R_below HO_16.out hb); replace HO170 := Aside0.mk (Kd.R_below HO170.out hb); replace HO180 := Aside0.mk (Kd.R_below HO180.out hb); have BK182 := Aside0.mk hbox; have GW182 := Aside0.mk ((by rw [hg]; exact (below_size HB.out) : w.heap.size ≤ gb182)); have GE182 := Aside0.mk ((by rw [hg]; exact (below_size HB.out) : w.heap.size ≤ gb182)); replace HB := Aside0.mk (below_step HB.out hb); have NB172_182 := Aside0.mk ((by rw [hg]; exact Nat.ne_of_lt (blk_lt (g := gb172) (o := .cells #[.string t163, .string t164, .int .i64 t165, .bool t166, .string t167, .slice Ao43 t168.length co43] 40 (0, 0)) BK172.out) : gb172 ≠ gb182)); have NB182_172 := Aside0.mk ((by rw [hg]; exact Nat.ne_of_gt (blk_lt (g := gb172) (o := .cells #[.string t163, .string t164, .int .i64 t165, .bool t166, .string t167, .slice Ao43 t168.length co43] 40 (0, 0)) BK172.out) : gb182 ≠ gb172)); replace BK172 := Aside0.mk (blk_below (g := gb172) (o := .cells #[.string t163, .string t164, .int .i64 t165, .bool t166, .string t167, .slice Ao43 t168.length co43] 40 (0, 0)) BK172.out hb); clear hb hbox hg; have hnb47 := NB182_172.out; have hnc47 := NB172_182.out; obtain ⟨hcz48_0, hcz48_1, hcz48_2, hcz48_3, hcz48_4, hcz48_5, hfz48_0, hfz48_1, hfz48_2, hfz48_3, hfz48_4, hfz48_5⟩ := cz6_ BK182.out; obtain ⟨Ao49, co49, eo49⟩ := Kd.R_slice HO180.out; subst eo49) | ((with_reducible refine gate_store (t := 40) (p := 10) rfl ?_); refine store_event (t := 40) (p := 10) (v := ?vo_w50) (w1 := ((((((w46.setCell ⟨gb182, 0, none⟩ (.string t173)).setCell ⟨gb182, 1, none⟩ (.string t174)).setCell ⟨gb182, 2, none⟩ (.int .i64 t175)).setCell ⟨gb182, 3, none⟩ (.bool t176)).setCell ⟨gb182, 4, none⟩ (.string t177)).setCell ⟨gb182, 5, none⟩ (.slice Ao49 t178.length co49))) ?hg ?ho ?hn ?hr ?_; (case ho => rfl); (case hg => rfl); (case hn => rfl); (case hr => (go_simp; done)); intro w50 hw; have n0_ : Aside0 (Kd.S k40 40 w50 w.heap.size (fun k_ => some k_ ≠ (.slice (some ad162) t159.length co5 : Value).ownBlock ∧ some k_ ≠ (.slice Ao43 t168.length co43 : Value).ownBlock ∧ some k_ ≠ (.slice Ao49 t178.length co49 : Value).ownBlock ∧ k_ ≠ gb172 ∧ k_ ≠ gb182) (.slice Ao44 x5_1.length co44) x5_1) := ⟨(by rw [hw]; exact (by (with_reducible repeat (first | apply Kd.S_alloc  | apply Kd.S_drewN  | apply Kd.S_drew)); exact Kd.S_mono (S_far6 (Kd.S_mono HO_5.out (fun k_ hk => (⟨hk, hk.2⟩ : _ ∧ k_ ≠ gb182))) (fun _ hk => hk.2)) (fun _ hk => ⟨hk.1.1.1.1.1, ⟨hk.1.1.1.1.2, ⟨hk.1.1.2, ⟨hk.1.1.1.2, hk.1.2⟩⟩⟩⟩)))⟩; have n1_ : Aside0 (Kd.R Kd.string 9 w50 w.heap.size (fun k_ => some k_ ≠ (.slice Ao43 t168.length co43 : Value).ownBlock ∧ some k_ ≠ (.slice Ao49 t178.length co49 : Value).ownBlock) (.slice (some ad162) t159.length co5) t159) := ⟨(by rw [hw]; exact (by (with_reducible repeat (first | apply Kd.R_alloc  | apply Kd.R_drewN  | apply Kd.R_drew)); exact Kd.R_mono (R_far6 (Kd.R_types HO_16.out BK182.out (by decide)) (fun _ hk => hk.2)) (fun _ hk => ⟨hk.1.1.2, hk.1.2⟩)))⟩; have n2_ : Aside0 (Kd.R Kd.string 9 w50 w.heap.size (fun k_ => some k_ ≠ (.slice (some ad162) t159.length co5 : Value).ownBlock ∧ some k_ ≠ (.slice Ao49 t178.length co49 : Value).ownBlock) (.slice Ao43 t168.length co43) t168) := ⟨(by rw [hw]; exact (by (with_reducible repeat (first | apply Kd.R_alloc  | apply Kd.R_drewN  | apply Kd.R_drew)); exact Kd.R_mono (R_far6 (Kd.R_types HO170.out BK182.out (by decide)) (fun _ hk => hk.2)) (fun _ hk => ⟨hk.1.1.2, hk.1.2⟩)))⟩; have n3_ : Aside0 (Kd.R Kd.string 9 w50 w.heap.size (fun k_ => some k_ ≠ (.slice (some ad162) t159.length co5 : Value).ownBlock ∧ some k_ ≠ (.slice Ao43 t168.length co43 : Value).ownBlock) (.slice Ao49 t178.length co49) t178) := ⟨(by rw [hw]; exact (by (with_reducible repeat (first | apply Kd.R_alloc  | apply Kd.R_drewN  | apply Kd.R_drew)); exact Kd.R_mono (R_far6 (Kd.R_types HO180.out BK182.out (by decide)) (fun _ hk => hk.2)) (fun _ hk => ⟨hk.1.1.2, hk.1.2⟩)))⟩; have n4_ : Aside0 (w50.heap[gb172]? = some (.cells #[.string t163, .string t164, .int .i64 t165, .bool t166, .string t167, .slice Ao43 t168.length co43] 40 (0, 0))) := ⟨(by rw [hw]; exact (by (with_reducible repeat (first | refine blk_drewN ?_ _  | refine blk_drew ?_  | refine blk_alloc ?_ _)); refine blk_far ?_ NB172_182.out _; (with_reducible repeat (first | refine blk_drewN ?_ _  | refine blk_drew ?_  | refine blk_alloc ?_ _)); refine blk_far ?_ NB172_182.out _; (with_reducible repeat (first | refine blk_drewN ?_ _  | refine blk_drew ?_  | refine blk_alloc ?_ _)); refine blk_far ?_ NB172_182.out _; (with_reducible repeat (first | refine blk_drewN ?_ _  | refine blk_drew ?_  | refine blk_alloc ?_ _)); refine blk_far ?_ NB172_182.out _; (with_reducible repeat (first | refine blk_drewN ?_ _  | refine blk_drew ?_  | refine blk_alloc ?_ _)); refine blk_far ?_ NB172_182.out _; (with_reducible repeat (first | refine blk_drewN ?_ _  | refine blk_drew ?_  | refine blk_alloc ?_ _)); refine blk_far ?_ NB172_182.out _; (with_reducible repeat (first | refine blk_drewN ?_ _  | refine blk_drew ?_  | refine blk_alloc ?_ _)); exact BK172.out))⟩; have n5_ : Aside0 (w50.heap[gb182]? = some (.cells #[.string t173, .string t174, .int .i64 t175, .bool t176, .string t177, .slice Ao49 t178.length co49] 40 (0, 0))) := ⟨(by rw [hw]; exact (put6_ BK182.out _ _ _ _ _ _))⟩; have n6_ : Aside0 (Below w.heap.size w w50) := ⟨(by rw [hw]; exact (by (repeat (with_reducible first | exact HB.out | refine below_set ?_ GE182.out))))⟩; clear hw HO_5; clear HO_16 HO170; clear HO180 BK172; clear BK182 HB; have HO_5 := n0_; have HO_16 := n1_; have HO170 := n2_; have HO180 := n3_; have BK172 := n4_; have BK182 := n5_; have HB := n6_; clear n0_ n1_ n2_ n3_ n4_ n5_ n6_; obtain ⟨hcz51_0, hcz51_1, hcz51_2, hcz51_3, hcz51_4, hcz51_5, hfz51_0, hfz51_1, hfz51_2, hfz51_3, hfz51_4, hfz51_5⟩ := cz6_ BK172.out) | ((with_reducible refine gate_builtin (b := .append) (xs := #[.tmp 54, .tmp 56]) rfl ?_); at_builtin; refine Kd.S_append k40 (w0 := w) w.heap.size rfl (.tmp 54) (.tmp 56) 22 40 (.agg #[(.string ⟨#[]⟩), (.string ⟨#[]⟩), (.int .i64 0), (.bool false), (.string ⟨#[]⟩), (.slice none 0 0)]) 88 rfl Tryz.underlying22 info40 rfl (by decide) (by omega) (.slice Ao44 x5_1.length co44) x5_1 (⟨t163, t164, t165, t166, t167, t168⟩ : S40) [.string t163, .string t164, .int .i64 t165, .bool t166, .string t167, .slice Ao43 t168.length co43] (fun k_ => some k_ ≠ (.slice (some ad162) t159.length co5 : Value).ownBlock ∧ some k_ ≠ (.slice Ao49 t178.length co49 : Value).ownBlock ∧ k_ ≠ gb172 ∧ k_ ≠ gb182) (fun k_ => some k_ = (.slice Ao43 t168.length co43 : Value).ownBlock) rfl rfl ?aP (fun k_ hk_ => ((Kd.R_mono (ok' := fun k_ => ((fun k_ => some k_ ≠ (.slice (some ad162) t159.length co5 : Value).ownBlock ∧ some k_ ≠ (.slice Ao49 t178.length co49 : Value).ownBlock ∧ k_ ≠ gb172 ∧ k_ ≠ gb182)) k_ ∧ some k_ ≠ (.slice Ao44 x5_1.length co44 : Value).ownBlock) (Kd.R_types (Kd.R_types (Kd.R_apart' (HO170.out) (Kd.S_typed HO_5.out) (by decide)) BK172.out (by decide)) BK182.out (by decide)) (fun k_ hk => ⟨⟨hk.1.1.1.1, ⟨hk.1.1.1.2, ⟨hk.1.2, hk.2⟩⟩⟩, hk.1.1.2⟩))).1 k_ hk_.symm) ?aF ?aO ?aB ?aS ?aL ?_; (case aP => exact k40_mkM _ _ _ (⟨t163, t164, t165, t166, t167, t168⟩ : S40) (Kd.R_mono (Kd.R_tight rfl (Kd.R_mono (ok' := fun k_ => ((fun k_ => some k_ ≠ (.slice (some ad162) t159.length co5 : Value).ownBlock ∧ some k_ ≠ (.slice Ao49 t178.length co49 : Value).ownBlock ∧ k_ ≠ gb172 ∧ k_ ≠ gb182)) k_ ∧ some k_ ≠ (.slice Ao44 x5_1.length co44 : Value).ownBlock) (Kd.R_types (Kd.R_types (Kd.R_apart' (HO170.out) (Kd.S_typed HO_5.out) (by decide)) BK172.out (by decide)) BK182.out (by decide)) (fun k_ hk => ⟨⟨hk.1.1.1.1, ⟨hk.1.1.1.2, ⟨hk.1.2, hk.2⟩⟩⟩, hk.1.1.2⟩))) (fun _ h_ => h_))); (case aB => exact HB.out); (case aF => exact (fun k_ hk => ⟨Kd.fresh' (Kd.R_lt HO_16.out) k_ hk, Kd.fresh' (Kd.R_lt HO180.out) k_ hk, Kd.freshB (g := gb172) (o := .cells #[.string t163, .string t164, .int .i64 t165, .bool t166, .string t167, .slice Ao43 t168.length co43] 40 (0, 0)) BK172.out k_ hk, Kd.freshB (g := gb182) (o := .cells #[.string t173, .string t174, .int .i64 t175, .bool t176, .string t177, .slice Ao49 t178.length co49] 40 (0, 0)) BK182.out k_ hk⟩)); (case aO => exact (by (with_reducible repeat (first | apply Kd.S_alloc  | apply Kd.S_drewN  | apply Kd.S_drew)); exact Kd.S_mono HO_5.out (fun k_ hk => ⟨⟨hk.1, ⟨hk.2.2.1, ⟨hk.2.2.2.1, hk.2.2.2.2⟩⟩⟩, fun e_ => hk.2.1 e_⟩))); (case aS => exact (below_size HB.out)); (case aL => have := LMc39.out; omega); intro v184 w52 ho hb hg hat; rw [← Ny183.out] at ho; have n0_ := Aside0.mk (Kd.R_over' HO_16.out (Kd.S_typed HO_5.out) (by decide) hg); have n1_ := Aside0.mk (blk_grown (g := gb172) (o := .cells #[.string t163, .string t164, .int .i64 t165, .bool t166, .string t167, .slice Ao43 t168.length co43] 40 (0, 0)) BK172.out hg (Kd.S_away HO_5.out (fun _ hk => hk.2.2.2.1))); have n2_ := Aside0.mk (Kd.R_over' HO180.out (Kd.S_typed HO_5.out) (by decide) hg); have n3_ := Aside0.mk (blk_grown (g := gb182) (o := .cells #[.string t173, .string t174, .int .i64 t175, .bool t176, .string t177, .slice Ao49 t178.length co49] 40 (0, 0)) BK182.out hg (Kd.S_away HO_5.out (fun _ hk => hk.2.2.2.2))); have n4_ := Aside0.mk hb; have n5_ := Aside0.mk ho; clear HO_16 BK172; clear HO180 BK182; clear HB HO_5 HO170; have HO_16 := n0_; have BK172 := n1_; have HO180 := n2_; have BK182 := n3_; have HB := n4_; have HO185 := n5_; clear n0_ n1_ n2_ n3_ n4_ n5_; clear ho hb hg hat))
                       go_roundg kj8
                       case measure => have := HK1.out; have := HJ8.out; omega
                       case rel => exact ⟨(y183), (wrap64 (x18_1 + 1)), rfl, H', ⟨by have := HK1.out; have := HJ8.out; omega⟩, ⟨by (with_reducible repeat (first | apply Kd.S_alloc  | apply Kd.S_drewN  | apply Kd.S_drew)); exact Kd.S_mono HO185.out (fun _ hk => hk.1)⟩, ⟨by (with_reducible repeat (first | apply Kd.R_alloc  | apply Kd.R_drewN  | apply Kd.R_drew)); exact Kd.R_mono HO_16.out (fun _ hk => trivial)⟩, ⟨HB.out⟩⟩
                     · rw [if_neg c39] at H
                       exact absurd H (by simp)
               · replace c15 := Bool.eq_false_iff.mpr c15
                 subst c15
                 have H1 : (some (([] : List (S40)), 110, wrap64 (x18_1 + 1))) = some (r1, r2, r3) := by rw [if_neg (show ¬ (false = true) by decide)] at H; exact H
                 clear H
                 have H := H1
                 clear H1
                 simp only [Option.some.injEq, Prod.mk.injEq] at H
                 obtain ⟨rfl, rfl, rfl⟩ := H
                 go_wp2_with (first | ((with_reducible refine gate_callee (f := 51) rfl ?_); refine goesL_ (some 32) rfl rfl Tryz.func51 (by kernel_rfl) rfl #[.string (rdOf ByteArray.empty t159 x18_1)] rfl (by ((try simp only [List.map_toArray, List.map_cons, List.map_nil]); (rfl))) ?_; (with_reducible refine (client_parseLine.calls (rdOf ByteArray.empty t159 x18_1) t163 t164 t165 t166 t167 t168 false _ A14.out).mono ?_); rintro e w53 ⟨v169, rfl, ho0, hb⟩; refine ⟨_, rfl, ?_⟩; replace HO_5 := Aside0.mk (Kd.S_elder' HO_5.out (Kd.R_base ho0) hb); have HO170 := Aside0.mk (Kd.R_lower (Kd.R_new' ho0 (Kd.R_lt HO_16.out)) (below_size HB.out)); replace HO_16 := Aside0.mk (Kd.R_elder' HO_16.out (Kd.R_base ho0) hb); replace HB := Aside0.mk (below_step HB.out hb); clear hb ho0) | ((with_reducible refine gate_dst (N := 8) rfl ?_); refine box_event (by rfl) (N := 8) (by rfl) (cs := #[.string (⟨#[]⟩ : ByteArray), .string (⟨#[]⟩ : ByteArray), .int .i64 0, .bool false, .string (⟨#[]⟩ : ByteArray), .slice none 0 0]) (t := 40) (by go_simp) ?_; intro gb172 hg w54 hbox hb; replace HO_5 := Aside0.mk (Kd.S_below (Kd.S_elderB HO_5.out gb172 (Nat.le_of_eq hg.symm)) hb); replace HO_16 := Aside0.mk (Kd.R_below HO_16.out hb); replace HO170 := Aside0.mk (Kd.R_below HO170.out hb); have BK172 := Aside0.mk hbox; have GW172 := Aside0.mk ((by rw [hg]; exact (below_size HB.out) : w.heap.size ≤ gb172)); have GE172 := Aside0.mk ((by rw [hg]; exact (below_size HB.out) : w.heap.size ≤ gb172)); replace HB := Aside0.mk (below_step HB.out hb); clear hb hbox hg; obtain ⟨hcz55_0, hcz55_1, hcz55_2, hcz55_3, hcz55_4, hcz55_5, hfz55_0, hfz55_1, hfz55_2, hfz55_3, hfz55_4, hfz55_5⟩ := cz6_ BK172.out; obtain ⟨Ao56, co56, eo56⟩ := Kd.R_slice HO170.out; subst eo56))
                 go_ret3
                 exact ⟨_, rfl, by (exact Kd.S_nil _ _ _ _ _), by (repeat (with_reducible first | exact HB.out | refine below_set ?_ GE172.out))⟩
         · rw [if_neg c8] at H
           exact absurd H (by simp)
       · rw [if_neg c7] at H
         exact absurd H (by simp)
     · rw [if_neg c6] at H
       have c6b0 : decide (x18_1 < (t159.length : Int)) = false := decide_eq_false c6
       clear c6
       simp only [Option.some.injEq, Prod.mk.injEq] at H
       obtain ⟨rfl, rfl, rfl⟩ := H
       go_wp2
       go_ret3
       exact ⟨_, rfl, by (with_reducible repeat (first | apply Kd.S_alloc  | apply Kd.S_drewN  | apply Kd.S_drew)); exact Kd.S_mono HO_5.out (fun _ hk => trivial), by (with_reducible exact HB.out)⟩
end Go.Proofs.YtmimipgmhgalaaaGreatDoor.PAll
end
section
namespace Go.Proofs.YtmimipgmhgalaaaGreatDoor.PAll
open Go.RowKit Go.Proofs.YtmimipgmhgalaaaGreatDoorW.PrintWords Go.Proofs.YtmimipgmhgalaaaGreatDoorW.PrintLast Go.Proofs.YtmimipgmhgalaaaGreatDoorW.PrintMore
attribute [local go_sem] max2_int min2_int max_two min_two max_three min_three max_four min_four
set_option linter.unusedVariables false
set_option linter.unusedSimpArgs false
def urlform_One.l0 : Nat → ByteArray → ByteArray → Int → List (S68) → Int → Int → Option (ByteArray × Bool × Int)
  | 0, _, _, _, _, _, _ => none
  | k + 1, x1, x7, x8, x11, x12, x13 => if x13 < x12 then (if 0 ≤ x13 then (if x13 < (x11.length : Int) then (if ((rd_T68 x11 x13).f0).toList = x1.toList then (urlform_One.l0 k x1 ((rd_T68 x11 x13).f1) (wrap64 (x8 + 1)) x11 x12 (wrap64 (x13 + 1))) else (urlform_One.l0 k x1 x7 x8 x11 x12 (wrap64 (x13 + 1)))) else (none)) else (none)) else (if x8 > 1 then (some ((⟨#[]⟩ : ByteArray), false, 34)) else (some (x7, (x7.toList != ([] : List UInt8)), 0)))
def urlform_One.f (k : Nat) (l0 : List (S68)) (a1 : ByteArray) : Option (ByteArray × Bool × Int) := urlform_One.l0 k a1 (⟨#[]⟩ : ByteArray) 0 l0 (l0.length : Int) 0
set_option maxHeartbeats 8000000 in
set_option maxRecDepth 100000 in
theorem urlform_One.calls (k : Nat) (A0 : Option Addr) (c0 : Nat) (l0 : List (S68)) (a1 : ByteArray) (r1 : ByteArray) (r2 : Bool) (r3 : Int) (w : World) (hr0 : Kd.C k68 w A0 l0.length l0) (hc0 : l0.length ≤ c0) (h : urlform_One.f k l0 a1 = some (r1, r2, r3)) :
    Calls Tryz.prog 69 #[.slice A0 l0.length c0, .string a1] w fun e w' => e = .returned (.tuple #[.string r1, .bool r2, .int .i64 r3]) ∧ Below w.heap.size w w' := by
  have hu68 := Tryz.underlying68
  have HR0 := Aside0.mk hr0
  have HC0 := Aside0.mk hc0
  clear hr0 hc0
  have HB := Aside0.mk (Below.refl w.heap.size w)
  have H : (urlform_One.l0 k a1 (⟨#[]⟩ : ByteArray) 0 l0 (l0.length : Int) 0) = some (r1, r2, r3) := h
  clear h
  have H' := Aside0.mk H
  clear H
  go_enter Tryz.func69, Tryz.ntmps69
  go_wp2
  go_loopg [7, 8, 13] k (fun kq v7 v8 v13 w' => ∃ (x7_1 : ByteArray) (x8_1 : Int) (x13_1 : Int), v7 = .string x7_1 ∧ v8 = .int .i64 x8_1 ∧ v13 = .int .i64 x13_1 ∧ Aside0 (urlform_One.l0 kq a1 x7_1 x8_1 l0 (l0.length : Int) x13_1 = some (r1, r2, r3)) ∧ Aside0 (kq ≤ k) ∧ Aside0 (Below w.heap.size w w'))
  case atStart => exact ⟨((⟨#[]⟩ : ByteArray)), (0), (0), (by first | rfl | (simp; done) | (simp [*]; done) | (simp; (generalize ByteArray.toList _ = z_); cases z_ <;> rfl)), (by first | rfl | (simp; done) | (simp [*]; done) | (simp; (generalize ByteArray.toList _ = z_); cases z_ <;> rfl)), (by first | rfl | (simp; done) | (simp [*]; done) | (simp; (generalize ByteArray.toList _ = z_); cases z_ <;> rfl)), H', ⟨Nat.le_refl _⟩, ⟨by repeat (first | (with_reducible first | exact HB.out | apply below_alloc | apply pw_below_drewN | apply below_drew1) | exact HB.out)⟩⟩
  case round =>
    clear H'
    try clear p2
    obtain ⟨x7_1, x8_1, x13_1, rfl, rfl, rfl, HA, HK1, HB⟩ := hrel
    cases gk with
    | zero => exact absurd HA.out (by simp [urlform_One.l0])
    | succ k1 =>
      have H := HA.out
      clear HA
      simp only [urlform_One.l0] at H
      by_cases c3 : x13_1 < (l0.length : Int)
      · rw [if_pos c3] at H
        have c3b0 : decide (x13_1 < (l0.length : Int)) = true := decide_eq_true c3
        clear c3
        by_cases c4 : 0 ≤ x13_1
        · rw [if_pos c4] at H
          have c4b0 : decide (0 ≤ x13_1) = true := decide_eq_true c4
          clear c4
          by_cases c5 : x13_1 < (l0.length : Int)
          · rw [if_pos c5] at H
            have c5b0 : decide (x13_1 < (l0.length : Int)) = true := decide_eq_true c5
            clear c5
            by_cases c6 : ((rd_T68 l0 x13_1).f0).toList = a1.toList
            · rw [if_pos c6] at H
              have c6b0 : (((rd_T68 l0 x13_1).f0).toList == a1.toList) = true := beq_iff_eq.mpr c6
              have c6b1 : (((rd_T68 l0 x13_1).f0).toList != a1.toList) = false := bne_eq_false_iff_eq.mpr c6
              clear c6
              have H' := Aside0.mk H
              clear H
              have p222 : 0 ≤ (x13_1 : Int) := of_decide_eq_true (by first | (with_reducible assumption) | assumption)
              have q222 : x13_1 < (l0.length : Int) := of_decide_eq_true (by first | (with_reducible assumption) | assumption)
              obtain ⟨ad222, e222, hx222_0, hx222_1⟩ := at_T68 HR0.out x13_1 p222 q222
              cases e222
              replace hx222_0 := (HB.out.cell (World.block_lt_of_cell? w _ hx222_0)).trans hx222_0
              replace hx222_1 := (HB.out.cell (World.block_lt_of_cell? w _ hx222_1)).trans hx222_1
              replace p222 := eq_true p222
              replace q222 := eq_true q222
              go_wp2_with (first | ((with_reducible refine gate_dst (N := 10) rfl ?_); refine box_event ?hg (N := 10) ?hd (cs := #[.string (⟨#[]⟩ : ByteArray), .string (⟨#[]⟩ : ByteArray)]) (t := 68) ?hr ?_; (case hd => rfl); (case hg => rfl); (case hr => first | (go_simp; done) | (go_simp; rfl)); intro gb223 hg w7 hbox hb; have n0_ := Aside0.mk (below_step (by repeat (first | (with_reducible first | exact HB.out | apply below_alloc | apply pw_below_drewN | apply below_drew1) | exact HB.out)) hb); have n1_ := Aside0.mk (hbox); have n2_ := Aside0.mk ((by rw [hg]; exact (below_size (by repeat (first | (with_reducible first | exact HB.out | apply below_alloc | apply pw_below_drewN | apply below_drew1) | exact HB.out))) : w.heap.size ≤ gb223)); have n3_ := Aside0.mk ((by rw [hg]; exact (below_size (by repeat (first | (with_reducible first | exact HB.out | apply below_alloc | apply pw_below_drewN | apply below_drew1) | exact HB.out))) : w.heap.size ≤ gb223)); clear HB; have HB := n0_; have BK223 := n1_; have GW223 := n2_; have GE223 := n3_; clear n0_ n1_ n2_ n3_; clear hb hbox hg; have hcz8_0 : w7.cell? ⟨gb223, 0, none⟩ = some (.string (⟨#[]⟩ : ByteArray)) := (blk_cell BK223.out 0).trans rfl; have hcz8_1 : w7.cell? ⟨gb223, 1, none⟩ = some (.string (⟨#[]⟩ : ByteArray)) := (blk_cell BK223.out 1).trans rfl; have hfz8_0 := blk_frozen BK223.out 0; have hfz8_1 := blk_frozen BK223.out 1))
              go_roundg k1
              case measure => have := HK1.out; omega
              case rel => exact ⟨((rd_T68 l0 x13_1).f1), (wrap64 (x8_1 + 1)), (wrap64 (x13_1 + 1)), (by first | rfl | (simp; done) | (simp [*]; done) | (simp; (generalize ByteArray.toList _ = z_); cases z_ <;> rfl)), (by first | rfl | (simp; done) | (simp [*]; done) | (simp; (generalize ByteArray.toList _ = z_); cases z_ <;> rfl)), (by first | rfl | (simp; done) | (simp [*]; done) | (simp; (generalize ByteArray.toList _ = z_); cases z_ <;> rfl)), H', ⟨by have := HK1.out; omega⟩, ⟨by repeat (first | (with_reducible first | exact HB.out | apply below_alloc | apply pw_below_drewN | apply below_drew1 | refine below_set ?_ GE223.out) | exact HB.out)⟩⟩
            · rw [if_neg c6] at H
              have c6b0 : (((rd_T68 l0 x13_1).f0).toList == a1.toList) = false := beq_eq_false_iff_ne.mpr c6
              have c6b1 : (((rd_T68 l0 x13_1).f0).toList != a1.toList) = true := bne_iff_ne.mpr c6
              have H' := Aside0.mk H
              clear H
              have p222 : 0 ≤ (x13_1 : Int) := of_decide_eq_true (by first | (with_reducible assumption) | assumption)
              have q222 : x13_1 < (l0.length : Int) := of_decide_eq_true (by first | (with_reducible assumption) | assumption)
              obtain ⟨ad222, e222, hx222_0, hx222_1⟩ := at_T68 HR0.out x13_1 p222 q222
              cases e222
              replace hx222_0 := (HB.out.cell (World.block_lt_of_cell? w _ hx222_0)).trans hx222_0
              replace hx222_1 := (HB.out.cell (World.block_lt_of_cell? w _ hx222_1)).trans hx222_1
              replace p222 := eq_true p222
              replace q222 := eq_true q222
              go_wp2_with (first | ((with_reducible refine gate_dst (N := 10) rfl ?_); refine box_event ?hg (N := 10) ?hd (cs := #[.string (⟨#[]⟩ : ByteArray), .string (⟨#[]⟩ : ByteArray)]) (t := 68) ?hr ?_; (case hd => rfl); (case hg => rfl); (case hr => first | (go_simp; done) | (go_simp; rfl)); intro gb223 hg w9 hbox hb; have n0_ := Aside0.mk (below_step (by repeat (first | (with_reducible first | exact HB.out | apply below_alloc | apply pw_below_drewN | apply below_drew1) | exact HB.out)) hb); have n1_ := Aside0.mk (hbox); have n2_ := Aside0.mk ((by rw [hg]; exact (below_size (by repeat (first | (with_reducible first | exact HB.out | apply below_alloc | apply pw_below_drewN | apply below_drew1) | exact HB.out))) : w.heap.size ≤ gb223)); have n3_ := Aside0.mk ((by rw [hg]; exact (below_size (by repeat (first | (with_reducible first | exact HB.out | apply below_alloc | apply pw_below_drewN | apply below_drew1) | exact HB.out))) : w.heap.size ≤ gb223)); clear HB; have HB := n0_; have BK223 := n1_; have GW223 := n2_; have GE223 := n3_; clear n0_ n1_ n2_ n3_; clear hb hbox hg; have hcz10_0 : w9.cell? ⟨gb223, 0, none⟩ = some (.string (⟨#[]⟩ : ByteArray)) := (blk_cell BK223.out 0).trans rfl; have hcz10_1 : w9.cell? ⟨gb223, 1, none⟩ = some (.string (⟨#[]⟩ : ByteArray)) := (blk_cell BK223.out 1).trans rfl; have hfz10_0 := blk_frozen BK223.out 0; have hfz10_1 := blk_frozen BK223.out 1))
              go_roundg k1
              case measure => have := HK1.out; omega
              case rel => exact ⟨(x7_1), (x8_1), (wrap64 (x13_1 + 1)), (by first | rfl | (simp; done) | (simp [*]; done) | (simp; (generalize ByteArray.toList _ = z_); cases z_ <;> rfl)), (by first | rfl | (simp; done) | (simp [*]; done) | (simp; (generalize ByteArray.toList _ = z_); cases z_ <;> rfl)), (by first | rfl | (simp; done) | (simp [*]; done) | (simp; (generalize ByteArray.toList _ = z_); cases z_ <;> rfl)), H', ⟨by have := HK1.out; omega⟩, ⟨by repeat (first | (with_reducible first | exact HB.out | apply below_alloc | apply pw_below_drewN | apply below_drew1 | refine below_set ?_ GE223.out) | exact HB.out)⟩⟩
          · rw [if_neg c5] at H
            exact absurd H (by simp)
        · rw [if_neg c4] at H
          exact absurd H (by simp)
      · rw [if_neg c3] at H
        have c3b0 : decide (x13_1 < (l0.length : Int)) = false := decide_eq_false c3
        clear c3
        by_cases c11 : x8_1 > 1
        · rw [if_pos c11] at H
          have c11b0 : decide (1 < x8_1) = true := decide_eq_true c11
          clear c11
          simp only [Option.some.injEq, Prod.mk.injEq] at H
          obtain ⟨rfl, rfl, rfl⟩ := H
          go_wp2
          go_ret3
          exact ⟨by first | rfl | (simp [errW_none, errW_some] <;> rfl) | (simp [*, errW_none, errW_some] <;> rfl) | (simp; (generalize ByteArray.toList _ = z_); cases z_ <;> rfl), by repeat (first | (with_reducible first | exact HB.out | apply below_alloc | apply pw_below_drewN | apply below_drew1) | exact HB.out)⟩
        · rw [if_neg c11] at H
          have c11b0 : decide (1 < x8_1) = false := decide_eq_false c11
          clear c11
          simp only [Option.some.injEq, Prod.mk.injEq] at H
          obtain ⟨rfl, rfl, rfl⟩ := H
          go_wp2
          go_ret3
          exact ⟨by first | rfl | (simp [errW_none, errW_some] <;> rfl) | (simp [*, errW_none, errW_some] <;> rfl) | (simp; (generalize ByteArray.toList _ = z_); cases z_ <;> rfl), by repeat (first | (with_reducible first | exact HB.out | apply below_alloc | apply pw_below_drewN | apply below_drew1) | exact HB.out)⟩
end Go.Proofs.YtmimipgmhgalaaaGreatDoor.PAll
end
section
namespace Go.Proofs.YtmimipgmhgalaaaGreatDoor.PAll
open Go.RowKit Go.Proofs.YtmimipgmhgalaaaGreatDoorW.PrintWords Go.Proofs.YtmimipgmhgalaaaGreatDoor.Plain Go.Proofs.YtmimipgmhgalaaaGreatDoor.Pure
set_option linter.unusedVariables false
theorem C_bytes (w : World) (s : ByteArray) (hs : s.size ≤ 9223372036854775807) : Kd.C (Kd.int .u8) (Lib.bytesWorld w 5 s) (some ⟨w.heap.size, 0, none⟩) (bytesOf s).length (bytesOf s) := by
  refine Kd.C_of_reads (enc := Value.int .u8) (d := (0 : Int)) (h1 := fun _ => rfl) ⟨rfl, by rw [bytesOf_length]; exact hs, fun h0 => ⟨_, rfl, fun j hj => ?_⟩⟩
  rw [bytesOf_length] at hj
  have h := Lib.bytesWorld_cell w 5 s j hj
  have e : (Addr.mk w.heap.size 0 none).add j = ⟨w.heap.size, j, none⟩ := by
    unfold Addr.add
    by_cases h0 : j = 0
    · subst h0; rfl
    · rw [if_neg h0]; simp
  rw [e, h]
  have hl : j < s.data.toList.length := by rw [Array.length_toList]; exact hj
  congr 2
  simp [bytesOf, List.getD]
  cases s.data[j]? <;> simp
theorem below_bytes (w : World) (s : ByteArray) : Below w.heap.size w (Lib.bytesWorld w 5 s) := by
  refine ⟨rfl, rfl, rfl, ?_, fun k hk => Lib.bytesWorld_at_old w 5 s k hk⟩
  rw [Lib.bytesWorld_size]; omega
theorem xor_nat (x y : Nat) (hx : x < 256) (hy : y < 256) : Go.bits .xor .u8 (x : Int) (y : Int) = ((x ^^^ y : Nat) : Int) ∧ x ^^^ y < 256 := by
  have h := Nat.xor_lt_two_pow (n := 8) hx hy
  refine ⟨?_, h⟩
  simp only [bits, BitVec.ofInt_natCast, BitVec.toNat_xor, BitVec.toNat_ofNat]
  rw [show (2 : Nat) ^ IntKind.u8.bits = 256 from rfl, Nat.mod_eq_of_lt hx, Nat.mod_eq_of_lt hy]
  exact wraps_u8 _ (by omega) (by omega)
theorem or_xor (d x y : Nat) (hd : d < 256) (hx : x < 256) (hy : y < 256) : ∃ n : Nat, n < 256 ∧ Go.bits .or .u8 (d : Int) (Go.bits .xor .u8 (x : Int) (y : Int)) = (n : Int) ∧ (n = 0 ↔ d = 0 ∧ x = y) := by
  obtain ⟨h1, h2⟩ := xor_nat x y hx hy
  have h3 := (bits_nat .u8 8 (by decide) wraps_u8 d (x ^^^ y) hd h2).2
  refine ⟨d ||| (x ^^^ y), Nat.or_lt_two_pow (n := 8) hd h2, by rw [h1, h3], ?_⟩
  rw [Nat.or_eq_zero_iff]
  have hx : x ^^^ y = 0 ↔ x = y := by
    constructor
    · intro h
      have h5 := congrArg (fun z => z ^^^ y) h
      simpa [Nat.xor_assoc] using h5
    · rintro rfl; simp
  rw [hx]
theorem rd_bytes (s : ByteArray) (i : Nat) (h : i < s.size) : rd (bytesOf s) (i : Int) = (s[i].toNat : Int) := by
  have h1 : i < s.data.toList.length := by rw [Spec.data_len]; exact h
  unfold rd bytesOf
  rw [Int.toNat_natCast, List.getD_eq_getElem?_getD, List.getElem?_map, List.getElem?_eq_getElem h1]
  rfl
theorem same_loop (a b : ByteArray) (hl : a.size = b.size) (hs : a.size ≤ 140737488355328) : ∀ (m i d : Nat), i + m = a.size → d < 256 →
    Ev (fun k => digest_Same.l0 k (bytesOf a) (bytesOf b) (d : Int) (a.size : Int) (i : Int)) (decide (d = 0) && decide (a.data.toList.drop i = b.data.toList.drop i)) := by
  have hal := bytesOf_length a
  have hbl := bytesOf_length b
  intro m
  induction m with
  | zero =>
    intro i d hi hd
    rw [List.drop_eq_nil_of_le (by rw [Spec.data_len]; omega), List.drop_eq_nil_of_le (by rw [Spec.data_len]; omega)]
    refine Ev.step (f := fun _ => some ((d : Int) == 0)) (fun k => ?_) (Ev.eq (Ev.now _) ?_)
    · simp only [digest_Same.l0]
      rw [if_neg (by omega)]
    · rw [decide_eq_true rfl, Bool.and_true, Bool.eq_iff_iff]; simp
  | succ m ih =>
    intro i d hi hd
    have ha : i < a.size := by omega
    have hb : i < b.size := by omega
    have ra := rd_bytes a i ha
    have rb := rd_bytes b i hb
    obtain ⟨n, hn, he, hz⟩ := or_xor d a[i].toNat b[i].toNat hd a[i].toNat_lt b[i].toNat_lt
    refine Ev.step (fun k => ?_) (Ev.eq (ih (i + 1) n (by omega) hn) ?_)
    · simp only [digest_Same.l0]
      rw [if_pos (by omega), if_pos (by omega), if_pos (by omega), if_pos (by omega), ra, rb, he, w64 (by omega) (by omega)]
      rfl
    · rw [Spec.drop_at a i ha, Spec.drop_at b i hb, Bool.eq_iff_iff]
      simp only [Bool.and_eq_true, decide_eq_true_eq, List.cons.injEq, hz]
      constructor
      · rintro ⟨⟨h1, h2⟩, h3⟩
        exact ⟨h1, UInt8.toNat_inj.1 h2, h3⟩
      · rintro ⟨h1, h2, h3⟩
        exact ⟨⟨h1, by rw [h2]⟩, h3⟩
theorem same_ev (a b : ByteArray) (hs : a.size ≤ 140737488355328) : Ev (fun k => digest_Same.f k (bytesOf a) (bytesOf b)) (decide (a = b)) := by
  have hal := bytesOf_length a
  have hbl := bytesOf_length b
  unfold digest_Same.f
  by_cases hl : a.size = b.size
  · refine Ev.pos (by omega) ?_
    have h := same_loop a b hl hs a.size 0 0 (by omega) (by omega)
    rw [List.drop_zero, List.drop_zero, decide_eq_true rfl, Bool.true_and] at h
    rw [hal]
    refine Ev.eq h ?_
    rw [decide_eq_decide]
    constructor
    · intro e
      have := congrArg Spec.bs e
      rwa [Spec.bs_of, Spec.bs_of] at this
    · intro e; rw [e]
  · refine Ev.neg (by omega) (Ev.eq (Ev.now _) ?_)
    rw [eq_comm, decide_eq_false_iff_not]
    intro e; exact hl (by rw [e])
def client_same.f (a0 a1 : ByteArray) : Option Bool := if a0.size ≤ 140737488355328 ∧ a1.size ≤ 140737488355328 then some (decide (a0 = a1)) else none
set_option maxHeartbeats 4000000 in
set_option maxRecDepth 100000 in
theorem client_same.calls (a0 a1 : ByteArray) (r1 : Bool) (w : World) (h : client_same.f a0 a1 = some r1) :
    Calls Tryz.prog 109 #[.string a0, .string a1] w fun e w' => e = .returned (.bool r1) ∧ Below w.heap.size w w' := by
  unfold client_same.f at h
  split at h
  · rename_i hs
    obtain rfl := Option.some.inj h
    obtain ⟨k, hk⟩ := Ev.rounds (same_ev a0 a1 hs.1)
    have c1 := Lib.run_convert_string_bytes w 9 79 5 a0 Tryz.underlying9 Tryz.underlying79 Tryz.underlying5
    have c2 := Lib.run_convert_string_bytes (Lib.bytesWorld w 5 a0) 9 79 5 a1 Tryz.underlying9 Tryz.underlying79 Tryz.underlying5
    have b1 := below_bytes w a0
    have b2 := below_bytes (Lib.bytesWorld w 5 a0) a1
    have hB := b1.trans (b2.mono b1.size)
    have k1 := Kd.C_below (C_bytes w a0 (by omega)) b2
    have k2 := C_bytes (Lib.bytesWorld w 5 a0) a1 (by omega)
    have g1 : (bytesOf a0).length ≤ grownCap w a0.size 0 5 := by rw [bytesOf_length]; exact grownCap_ge ..
    have g2 : (bytesOf a1).length ≤ grownCap (Lib.bytesWorld w 5 a0) a1.size 0 5 := by rw [bytesOf_length]; exact grownCap_ge ..
    have hcall := digest_Same.calls k _ _ (bytesOf a0) _ _ (bytesOf a1) _ _ k1 g1 k2 g2 hk
    rw [bytesOf_length, bytesOf_length, Lib.bytesWorld_size] at hcall
    rw [Lib.bytesWorld_size] at c2
    clear k1 k2 g1 g2 b1 b2 hk
    go_enter Tryz.func109, Tryz.ntmps109
    go_wp2_with (go_at_call 137; refine hcall.mono ?_; rintro e w1 ⟨rfl, hd⟩)
    go_ret
    exact ⟨rfl, hB.trans ((hd.below).mono hB.size)⟩
  · cases h
end Go.Proofs.YtmimipgmhgalaaaGreatDoor.PAll
end
section
namespace Go.Proofs.YtmimipgmhgalaaaGreatDoor.PAll
open Go.RowKit Go.Proofs.YtmimipgmhgalaaaGreatDoorW.PrintWords Go.Proofs.YtmimipgmhgalaaaGreatDoorW.PrintLast Go.Proofs.YtmimipgmhgalaaaGreatDoorW.PrintMore
set_option linter.unusedVariables false
set_option linter.unusedSimpArgs false
theorem put_six {w : World} {g : Nat} {t : TypeId} {a0 a1 a2 a3 a4 a5 : Value} (h : w.heap[g]? = some (.cells #[a0, a1, a2, a3, a4, a5] t (0, 0))) (b0 b1 b2 b3 b4 b5 : Value) :
    ((((((w.setCell ⟨g, 0, none⟩ b0).setCell ⟨g, 1, none⟩ b1).setCell ⟨g, 2, none⟩ b2).setCell ⟨g, 3, none⟩ b3).setCell ⟨g, 4, none⟩ b4).setCell ⟨g, 5, none⟩ b5).heap[g]? = some (.cells #[b0, b1, b2, b3, b4, b5] t (0, 0)) :=
  blk_put (blk_put (blk_put (blk_put (blk_put (blk_put h 0 b0 rfl) 1 b1 rfl) 2 b2 rfl) 3 b3 rfl) 4 b4 rfl) 5 b5 rfl
theorem below_six {V w : World} {g : Nat} (h : Below V.heap.size V w) (hg : V.heap.size ≤ g) (b0 b1 b2 b3 b4 b5 : Value) :
    Below V.heap.size V ((((((w.setCell ⟨g, 0, none⟩ b0).setCell ⟨g, 1, none⟩ b1).setCell ⟨g, 2, none⟩ b2).setCell ⟨g, 3, none⟩ b3).setCell ⟨g, 4, none⟩ b4).setCell ⟨g, 5, none⟩ b5) :=
  below_set (below_set (below_set (below_set (below_set (below_set h hg) hg) hg) hg) hg) hg
set_option maxRecDepth 100000 in
set_option maxHeartbeats 1000000 in
theorem proven_yes (A : Option Addr) (c : Nat) (V : World) : Calls Tryz.prog 70 #[.agg #[.string ⟨#[98, 111, 120]⟩, .string ⟨#[115]⟩, .int .i64 2, .bool false, .string ⟨#[]⟩, .slice A 1 c], .int .i64 2, .string ⟨#[115]⟩] V fun e w' => e = .returned (.tuple #[.agg #[.string ⟨#[98, 111, 120]⟩, .string ⟨#[115]⟩, .int .i64 2, .bool false, .string ⟨#[]⟩, .slice A 1 c], .int .i64 2, .int .i64 0]) ∧ Below V.heap.size V w' := by
  have HS := Lib.hid (fun W : World => client_same.calls ⟨#[115]⟩ ⟨#[115]⟩ true W (by kernel_rfl))
  have HB := Lib.hid (Below.refl V.heap.size V)
  go_enter Tryz.func70, Tryz.ntmps70
  go_upto_block 2 with (first | ((with_reducible refine gate_dst (N := 3) rfl ?_); refine box_event ?hg (N := 3) ?hd (cs := #[.string ⟨#[98, 111, 120]⟩, .string ⟨#[115]⟩, .int .i64 2, .bool false, .string ⟨#[]⟩, .slice A 1 c]) (t := 40) ?hr ?_; (case hd => rfl); (case hg => rfl); (case hr => first | (go_simp; done) | (go_simp; rfl)); intro p hg w_p hbox hb; have n0_ := Lib.hid (below_step (w := V) (by repeat (first | (with_reducible first | exact HB.out | apply below_alloc | apply pw_below_drewN | apply below_drew1) | exact HB.out)) hb); have BKp := Lib.hid hbox; have GEp := Lib.hid ((by rw [hg]; exact below_size (by repeat (first | (with_reducible first | exact HB.out | apply below_alloc | apply pw_below_drewN | apply below_drew1) | exact HB.out))) : V.heap.size ≤ p); (try have BKO := Lib.hid (blk_below (by (with_reducible repeat (first | refine blk_drewN ?_ _ | refine blk_drew ?_ | refine blk_alloc ?_ _)); exact BKq.out) hb)); clear HB hbox hb hg; have HB := n0_; clear n0_) | ((with_reducible refine gate_dst (N := 6) rfl ?_); refine box_event ?hg (N := 6) ?hd (cs := #[.string ⟨#[]⟩, .string ⟨#[]⟩, .int .i64 0, .bool false, .string ⟨#[]⟩, .slice none 0 0]) (t := 40) ?hr ?_; (case hd => rfl); (case hg => rfl); (case hr => first | (go_simp; done) | (go_simp; rfl)); intro q hg w_q hbox hb; have n0_ := Lib.hid (below_step (w := V) (by repeat (first | (with_reducible first | exact HB.out | apply below_alloc | apply pw_below_drewN | apply below_drew1) | exact HB.out)) hb); have BKq := Lib.hid hbox; have GEq := Lib.hid ((by rw [hg]; exact below_size (by repeat (first | (with_reducible first | exact HB.out | apply below_alloc | apply pw_below_drewN | apply below_drew1) | exact HB.out))) : V.heap.size ≤ q); (try have BKO := Lib.hid (blk_below (by (with_reducible repeat (first | refine blk_drewN ?_ _ | refine blk_drew ?_ | refine blk_alloc ?_ _)); exact BKp.out) hb)); clear HB hbox hb hg; have HB := n0_; clear n0_))
  have BP := BKO
  have BQ := BKq
  clear BKp BKO BKq
  have c30 := (blk_cell BP.out 0).trans rfl; have f30 := blk_frozen BP.out 0; have c60 := (blk_cell BQ.out 0).trans rfl; have f60 := blk_frozen BQ.out 0; have c31 := (blk_cell BP.out 1).trans rfl; have f31 := blk_frozen BP.out 1; have c61 := (blk_cell BQ.out 1).trans rfl; have f61 := blk_frozen BQ.out 1; have c32 := (blk_cell BP.out 2).trans rfl; have f32 := blk_frozen BP.out 2; have c62 := (blk_cell BQ.out 2).trans rfl; have f62 := blk_frozen BQ.out 2; have c33 := (blk_cell BP.out 3).trans rfl; have f33 := blk_frozen BP.out 3; have c63 := (blk_cell BQ.out 3).trans rfl; have f63 := blk_frozen BQ.out 3; have c34 := (blk_cell BP.out 4).trans rfl; have f34 := blk_frozen BP.out 4; have c64 := (blk_cell BQ.out 4).trans rfl; have f64 := blk_frozen BQ.out 4; have c35 := (blk_cell BP.out 5).trans rfl; have f35 := blk_frozen BP.out 5; have c65 := (blk_cell BQ.out 5).trans rfl; have f65 := blk_frozen BQ.out 5
  go_wp2_with (go_at_call 109; (with_reducible refine (HS.out _).mono ?_); rintro e w5 ⟨rfl, hb⟩; have n1_ := Lib.hid (blk_below BP.out hb); have n2_ := Lib.hid (blk_below BQ.out hb); have n3_ := Lib.hid (below_step HB.out hb); clear hb BP BQ HB; clear c30 f30 c60 f60 c31 f31 c61 f61 c32 f32 c62 f62 c33 f33 c63 f63 c34 f34 c64 f64 c35 f35 c65 f65; have BP := n1_; have BQ := n2_; have HB := n3_; clear n1_ n2_ n3_; have c30 := (blk_cell BP.out 0).trans rfl; have f30 := blk_frozen BP.out 0; have c60 := (blk_cell BQ.out 0).trans rfl; have f60 := blk_frozen BQ.out 0; have c31 := (blk_cell BP.out 1).trans rfl; have f31 := blk_frozen BP.out 1; have c61 := (blk_cell BQ.out 1).trans rfl; have f61 := blk_frozen BQ.out 1; have c32 := (blk_cell BP.out 2).trans rfl; have f32 := blk_frozen BP.out 2; have c62 := (blk_cell BQ.out 2).trans rfl; have f62 := blk_frozen BQ.out 2; have c33 := (blk_cell BP.out 3).trans rfl; have f33 := blk_frozen BP.out 3; have c63 := (blk_cell BQ.out 3).trans rfl; have f63 := blk_frozen BQ.out 3; have c34 := (blk_cell BP.out 4).trans rfl; have f34 := blk_frozen BP.out 4; have c64 := (blk_cell BQ.out 4).trans rfl; have f64 := blk_frozen BQ.out 4; have c35 := (blk_cell BP.out 5).trans rfl; have f35 := blk_frozen BP.out 5; have c65 := (blk_cell BQ.out 5).trans rfl; have f65 := blk_frozen BQ.out 5)
  refine bodyPost_ret (results_ctt rfl _ _ q 40 #[.string ⟨#[98, 111, 120]⟩, .string ⟨#[115]⟩, .int .i64 2, .bool false, .string ⟨#[]⟩, .slice A 1 c] (0, 0) _ rfl (put_six BQ.out _ _ _ _ _ _) Tryz.underlying40 rfl (by kernel_rfl)) rfl ?_
  exact ⟨rfl, below_six HB.out GEq.out _ _ _ _ _ _⟩
set_option maxRecDepth 100000 in
set_option maxHeartbeats 1000000 in
theorem proven_no (A : Option Addr) (c : Nat) (V : World) : Calls Tryz.prog 70 #[.agg #[.string ⟨#[98, 111, 120]⟩, .string ⟨#[115]⟩, .int .i64 2, .bool false, .string ⟨#[]⟩, .slice A 1 c], .int .i64 2, .string ⟨#[]⟩] V fun e w' => e = .returned (.tuple #[.agg #[.string ⟨#[]⟩, .string ⟨#[]⟩, .int .i64 0, .bool false, .string ⟨#[]⟩, .slice none 0 0], .int .i64 0, .int .i64 112]) ∧ Below V.heap.size V w' := by
  have HS := Lib.hid (fun W : World => client_same.calls ⟨#[115]⟩ ⟨#[]⟩ false W (by kernel_rfl))
  have HB := Lib.hid (Below.refl V.heap.size V)
  go_enter Tryz.func70, Tryz.ntmps70
  go_upto_block 2 with (first | ((with_reducible refine gate_dst (N := 3) rfl ?_); refine box_event ?hg (N := 3) ?hd (cs := #[.string ⟨#[98, 111, 120]⟩, .string ⟨#[115]⟩, .int .i64 2, .bool false, .string ⟨#[]⟩, .slice A 1 c]) (t := 40) ?hr ?_; (case hd => rfl); (case hg => rfl); (case hr => first | (go_simp; done) | (go_simp; rfl)); intro p hg w_p hbox hb; have n0_ := Lib.hid (below_step (w := V) (by repeat (first | (with_reducible first | exact HB.out | apply below_alloc | apply pw_below_drewN | apply below_drew1) | exact HB.out)) hb); have BKp := Lib.hid hbox; have GEp := Lib.hid ((by rw [hg]; exact below_size (by repeat (first | (with_reducible first | exact HB.out | apply below_alloc | apply pw_below_drewN | apply below_drew1) | exact HB.out))) : V.heap.size ≤ p); (try have BKO := Lib.hid (blk_below (by (with_reducible repeat (first | refine blk_drewN ?_ _ | refine blk_drew ?_ | refine blk_alloc ?_ _)); exact BKq.out) hb)); clear HB hbox hb hg; have HB := n0_; clear n0_) | ((with_reducible refine gate_dst (N := 6) rfl ?_); refine box_event ?hg (N := 6) ?hd (cs := #[.string ⟨#[]⟩, .string ⟨#[]⟩, .int .i64 0, .bool false, .string ⟨#[]⟩, .slice none 0 0]) (t := 40) ?hr ?_; (case hd => rfl); (case hg => rfl); (case hr => first | (go_simp; done) | (go_simp; rfl)); intro q hg w_q hbox hb; have n0_ := Lib.hid (below_step (w := V) (by repeat (first | (with_reducible first | exact HB.out | apply below_alloc | apply pw_below_drewN | apply below_drew1) | exact HB.out)) hb); have BKq := Lib.hid hbox; have GEq := Lib.hid ((by rw [hg]; exact below_size (by repeat (first | (with_reducible first | exact HB.out | apply below_alloc | apply pw_below_drewN | apply below_drew1) | exact HB.out))) : V.heap.size ≤ q); (try have BKO := Lib.hid (blk_below (by (with_reducible repeat (first | refine blk_drewN ?_ _ | refine blk_drew ?_ | refine blk_alloc ?_ _)); exact BKp.out) hb)); clear HB hbox hb hg; have HB := n0_; clear n0_))
  have BP := BKO
  have BQ := BKq
  clear BKp BKO BKq
  have c30 := (blk_cell BP.out 0).trans rfl; have f30 := blk_frozen BP.out 0; have c60 := (blk_cell BQ.out 0).trans rfl; have f60 := blk_frozen BQ.out 0; have c31 := (blk_cell BP.out 1).trans rfl; have f31 := blk_frozen BP.out 1; have c61 := (blk_cell BQ.out 1).trans rfl; have f61 := blk_frozen BQ.out 1; have c32 := (blk_cell BP.out 2).trans rfl; have f32 := blk_frozen BP.out 2; have c62 := (blk_cell BQ.out 2).trans rfl; have f62 := blk_frozen BQ.out 2; have c33 := (blk_cell BP.out 3).trans rfl; have f33 := blk_frozen BP.out 3; have c63 := (blk_cell BQ.out 3).trans rfl; have f63 := blk_frozen BQ.out 3; have c34 := (blk_cell BP.out 4).trans rfl; have f34 := blk_frozen BP.out 4; have c64 := (blk_cell BQ.out 4).trans rfl; have f64 := blk_frozen BQ.out 4; have c35 := (blk_cell BP.out 5).trans rfl; have f35 := blk_frozen BP.out 5; have c65 := (blk_cell BQ.out 5).trans rfl; have f65 := blk_frozen BQ.out 5
  go_wp2_with (go_at_call 109; (with_reducible refine (HS.out _).mono ?_); rintro e w5 ⟨rfl, hb⟩; have n1_ := Lib.hid (blk_below BP.out hb); have n2_ := Lib.hid (blk_below BQ.out hb); have n3_ := Lib.hid (below_step HB.out hb); clear hb BP BQ HB; clear c30 f30 c60 f60 c31 f31 c61 f61 c32 f32 c62 f62 c33 f33 c63 f63 c34 f34 c64 f64 c35 f35 c65 f65; have BP := n1_; have BQ := n2_; have HB := n3_; clear n1_ n2_ n3_; have c30 := (blk_cell BP.out 0).trans rfl; have f30 := blk_frozen BP.out 0; have c60 := (blk_cell BQ.out 0).trans rfl; have f60 := blk_frozen BQ.out 0; have c31 := (blk_cell BP.out 1).trans rfl; have f31 := blk_frozen BP.out 1; have c61 := (blk_cell BQ.out 1).trans rfl; have f61 := blk_frozen BQ.out 1; have c32 := (blk_cell BP.out 2).trans rfl; have f32 := blk_frozen BP.out 2; have c62 := (blk_cell BQ.out 2).trans rfl; have f62 := blk_frozen BQ.out 2; have c33 := (blk_cell BP.out 3).trans rfl; have f33 := blk_frozen BP.out 3; have c63 := (blk_cell BQ.out 3).trans rfl; have f63 := blk_frozen BQ.out 3; have c34 := (blk_cell BP.out 4).trans rfl; have f34 := blk_frozen BP.out 4; have c64 := (blk_cell BQ.out 4).trans rfl; have f64 := blk_frozen BQ.out 4; have c35 := (blk_cell BP.out 5).trans rfl; have f35 := blk_frozen BP.out 5; have c65 := (blk_cell BQ.out 5).trans rfl; have f65 := blk_frozen BQ.out 5)
  refine bodyPost_ret (results_ctt rfl _ _ q 40 #[.string ⟨#[]⟩, .string ⟨#[]⟩, .int .i64 0, .bool false, .string ⟨#[]⟩, .slice none 0 0] (0, 0) _ rfl (put_six BQ.out _ _ _ _ _ _) Tryz.underlying40 rfl (by kernel_rfl)) rfl ?_
  exact ⟨rfl, below_six HB.out GEq.out _ _ _ _ _ _⟩
def liveL : List S40 := [⟨⟨#[98, 111, 120]⟩, ⟨#[115]⟩, 2, false, ⟨#[]⟩, [⟨#[112, 97, 121]⟩]⟩, ⟨⟨#[116, 118]⟩, ⟨#[]⟩, 1, false, ⟨#[]⟩, []⟩]
def liveP1 : List S68 := [⟨⟨#[99, 108, 105, 101, 110, 116, 95, 105, 100]⟩, ⟨#[98, 111, 120]⟩⟩]
def liveP2 : List S68 := [⟨⟨#[99, 108, 105, 101, 110, 116, 95, 105, 100]⟩, ⟨#[98, 111, 120]⟩⟩, ⟨⟨#[99, 108, 105, 101, 110, 116, 95, 115, 101, 99, 114, 101, 116]⟩, ⟨#[115]⟩⟩]
theorem six_far {w : World} {g k : Nat} (h : k ≠ g) (b0 b1 b2 b3 b4 b5 : Value) :
    ((((((w.setCell ⟨g, 0, none⟩ b0).setCell ⟨g, 1, none⟩ b1).setCell ⟨g, 2, none⟩ b2).setCell ⟨g, 3, none⟩ b3).setCell ⟨g, 4, none⟩ b4).setCell ⟨g, 5, none⟩ b5).heap[k]? = w.heap[k]? :=
  (Below.heap_setCell _ _ _ _ h).trans <| (Below.heap_setCell _ _ _ _ h).trans <| (Below.heap_setCell _ _ _ _ h).trans <| (Below.heap_setCell _ _ _ _ h).trans <| (Below.heap_setCell _ _ _ _ h).trans (Below.heap_setCell _ _ _ _ h)
theorem cS_one {w : World} {g : Nat} {cs : Array Value} {t : TypeId} {x : ByteArray} (h : w.heap[g]? = some (.cells cs t (0, 0))) (h0 : cs[0]? = some (.string x)) : Kd.C Kd.string w (some ⟨g, 0, none⟩) 1 [x] := by
  refine ⟨rfl, by omega, fun _ => ⟨_, rfl, fun j p hj => ?_⟩⟩
  rcases j with _ | j
  · obtain rfl : x = p := Option.some.inj hj
    refine ⟨[.string x], rfl, rfl, fun i u hu => ?_⟩
    rw [← hu]
    rcases i with _ | i
    · exact (blk_cell h 0).trans h0
    · cases hu
  · cases hj
set_option maxRecDepth 100000 in
set_option maxHeartbeats 1000000 in
theorem auth_yes (V : World) (g s c : Nat) (h1 : Kd.C k40 V (some ⟨g, 0, none⟩) 2 liveL) (h2 : Kd.C k68 V (some ⟨s, 0, none⟩) 2 liveP2) (h3 : 2 ≤ c) : Calls Tryz.prog 34 #[.slice (some ⟨g, 0, none⟩) 2 c, .string ⟨#[]⟩, .slice (some ⟨s, 0, none⟩) 2 2] V fun e w' => ∃ (A : Option Addr) (c5 : Nat), e = .returned (.tuple #[.agg #[.string ⟨#[98, 111, 120]⟩, .string ⟨#[115]⟩, .int .i64 2, .bool false, .string ⟨#[]⟩, .slice A 1 c5], .int .i64 2, .int .i64 0]) ∧ 1 ≤ c5 ∧ Kd.C Kd.string w' A 1 [⟨#[112, 97, 121]⟩] ∧ Below V.heap.size V w' := by
  have HO1 := Lib.hid (fun (W : World) (h : Kd.C k68 W (some ⟨s, 0, none⟩) 2 liveP2) => show Calls Tryz.prog 69 #[.slice (some ⟨s, 0, none⟩) 2 2, .string ⟨#[99, 108, 105, 101, 110, 116, 95, 105, 100]⟩] W (fun e w' => e = .returned (.tuple #[.string ⟨#[98, 111, 120]⟩, .bool true, .int .i64 0]) ∧ Below W.heap.size W w') from urlform_One.calls 400 (some ⟨s, 0, none⟩) 2 liveP2 ⟨#[99, 108, 105, 101, 110, 116, 95, 105, 100]⟩ _ _ _ W h (Nat.le_refl _) (by kernel_rfl))
  have HO2 := Lib.hid (fun (W : World) (h : Kd.C k68 W (some ⟨s, 0, none⟩) 2 liveP2) => show Calls Tryz.prog 69 #[.slice (some ⟨s, 0, none⟩) 2 2, .string ⟨#[99, 108, 105, 101, 110, 116, 95, 115, 101, 99, 114, 101, 116]⟩] W (fun e w' => e = .returned (.tuple #[.string ⟨#[115]⟩, .bool true, .int .i64 0]) ∧ Below W.heap.size W w') from urlform_One.calls 400 (some ⟨s, 0, none⟩) 2 liveP2 ⟨#[99, 108, 105, 101, 110, 116, 95, 115, 101, 99, 114, 101, 116]⟩ _ _ _ W h (Nat.le_refl _) (by kernel_rfl))
  have HF := Lib.hid (fun (W : World) (h : Kd.C k40 W (some ⟨g, 0, none⟩) 2 liveL) => show Calls Tryz.prog 29 #[.slice (some ⟨g, 0, none⟩) 2 c, .string ⟨#[98, 111, 120]⟩] W (fun e w' => ∃ (g2 c5 : Nat) (cs : Array Value), e = .returned (.tuple #[.agg #[.string ⟨#[98, 111, 120]⟩, .string ⟨#[115]⟩, .int .i64 2, .bool false, .string ⟨#[]⟩, .slice (some ⟨g2, 0, none⟩) 1 c5], .bool true]) ∧ 1 ≤ c5 ∧ W.heap.size ≤ g2 ∧ w'.heap[g2]? = some (.cells cs 9 (0, 0)) ∧ cs[0]? = some (.string ⟨#[112, 97, 121]⟩) ∧ Below W.heap.size W w') from by
    refine (client_Find.calls 400 (some ⟨g, 0, none⟩) c liveL ⟨#[98, 111, 120]⟩ ⟨#[98, 111, 120]⟩ ⟨#[115]⟩ 2 false ⟨#[]⟩ [⟨#[112, 97, 121]⟩] true W h h3 (by kernel_rfl)).mono ?_
    rintro e w' ⟨v5, rfl, hR, hb⟩
    obtain ⟨g2, c5, rfl, hg2, _, cs, hcs⟩ := Kd.R_form hR (by decide)
    obtain ⟨_, hl, hC⟩ := Kd.R_reads' hR
    obtain ⟨ad, cc, hA, _, hK, hcell⟩ := Kd.C_get hC (⟨#[]⟩ : ByteArray) 0 (by omega) (by decide)
    obtain rfl : (⟨g2, 0, none⟩ : Addr) = ad := Option.some.inj hA
    have hK' : cc = [.string ⟨#[112, 97, 121]⟩] := hK
    subst hK'
    exact ⟨g2, c5, cs, rfl, hl, hg2, hcs, (blk_cell hcs 0).symm.trans (hcell 0 _ rfl), hb⟩)
  go_enter Tryz.func34, Tryz.ntmps34
  go_upto_region 1 with ((with_reducible refine gate_dst (N := 6) rfl ?_); refine box_event ?hg (N := 6) ?hd (cs := #[.string ⟨#[]⟩, .string ⟨#[]⟩, .int .i64 0, .bool false, .string ⟨#[]⟩, .slice none 0 0]) (t := 40) ?hr ?_; (case hd => rfl); (case hg => rfl); (case hr => first | (go_simp; done) | (go_simp; rfl)); intro q hg w_q hbox hb; have BQ := Lib.hid hbox; have GE := Lib.hid ((by rw [hg]; exact Nat.le_refl _) : V.heap.size ≤ q); have HB := Lib.hid hb; have HC := Lib.hid (Kd.C_below h1 hb); have HD := Lib.hid (Kd.C_below h2 hb); clear hbox hg hb h1 h2)
  go_wp2_with (first | (go_at_call 69; (with_reducible refine (HO1.out _ HD.out).mono ?_); rintro e w1 ⟨rfl, hb⟩; have n1_ := Lib.hid (below_step HB.out hb); have n2_ := Lib.hid (blk_below BQ.out hb); have n3_ := Lib.hid (Kd.C_below HC.out hb); have n4_ := Lib.hid (Kd.C_below HD.out hb); clear HB BQ HC HD; have HB := n1_; have BQ := n2_; have HC := n3_; have HD := n4_; clear n1_ n2_ n3_ n4_ hb) | (go_at_call 69; (with_reducible refine (HO2.out _ HD.out).mono ?_); rintro e w2 ⟨rfl, hb⟩; have n1_ := Lib.hid (below_step HB.out hb); have n2_ := Lib.hid (blk_below BQ.out hb); have n3_ := Lib.hid (Kd.C_below HC.out hb); have n4_ := Lib.hid (Kd.C_below HD.out hb); clear HB BQ HC HD; have HB := n1_; have BQ := n2_; have HC := n3_; have HD := n4_; clear n1_ n2_ n3_ n4_ hb) | (go_at_call 29; (with_reducible refine (HF.out _ HC.out).mono ?_); rintro e w3 ⟨g2, c5, cs, rfl, hc5, hg2, hcs, h0, hb⟩; have NE := Lib.hid ((by have := blk_lt BQ.out; omega) : g2 ≠ q); have H5 := Lib.hid hc5; have H0 := Lib.hid h0; have BF := Lib.hid hcs; clear hc5 hg2 hcs h0; have n1_ := Lib.hid (below_step HB.out hb); have n2_ := Lib.hid (blk_below BQ.out hb); have n3_ := Lib.hid (Kd.C_below HC.out hb); have n4_ := Lib.hid (Kd.C_below HD.out hb); clear HB BQ HC HD; have HB := n1_; have BQ := n2_; have HC := n3_; have HD := n4_; clear n1_ n2_ n3_ n4_ hb) | (go_at_call 70; (with_reducible refine (proven_yes _ _ _).mono ?_); rintro e w4 ⟨rfl, hb⟩; have n1_ := Lib.hid (below_step (below_alloc HB.out _) hb); have n2_ := Lib.hid (blk_below (blk_alloc BQ.out _) hb); have n5_ := Lib.hid (blk_below (blk_alloc BF.out _) hb); clear HB BQ BF HC HD hb; have HB := n1_; have BQ := n2_; have BF := n5_; clear n1_ n2_ n5_; have c60 := (blk_cell BQ.out 0).trans rfl; have f60 := blk_frozen BQ.out 0; have c61 := (blk_cell BQ.out 1).trans rfl; have f61 := blk_frozen BQ.out 1; have c62 := (blk_cell BQ.out 2).trans rfl; have f62 := blk_frozen BQ.out 2; have c63 := (blk_cell BQ.out 3).trans rfl; have f63 := blk_frozen BQ.out 3; have c64 := (blk_cell BQ.out 4).trans rfl; have f64 := blk_frozen BQ.out 4; have c65 := (blk_cell BQ.out 5).trans rfl; have f65 := blk_frozen BQ.out 5))
  refine bodyPost_ret (results_ctt rfl _ _ q 40 #[.string ⟨#[98, 111, 120]⟩, .string ⟨#[115]⟩, .int .i64 2, .bool false, .string ⟨#[]⟩, .slice (some ⟨g2, 0, none⟩) 1 c5] (0, 0) _ rfl (put_six BQ.out _ _ _ _ _ _) Tryz.underlying40 rfl (by kernel_rfl)) rfl ?_
  exact ⟨some ⟨g2, 0, none⟩, c5, rfl, H5.out, cS_one ((six_far NE.out _ _ _ _ _ _).trans BF.out) H0.out, below_six HB.out GE.out _ _ _ _ _ _⟩
set_option maxRecDepth 100000 in
set_option maxHeartbeats 1000000 in
theorem auth_no (V : World) (g s c : Nat) (h1 : Kd.C k40 V (some ⟨g, 0, none⟩) 2 liveL) (h2 : Kd.C k68 V (some ⟨s, 0, none⟩) 1 liveP1) (h3 : 2 ≤ c) : Calls Tryz.prog 34 #[.slice (some ⟨g, 0, none⟩) 2 c, .string ⟨#[]⟩, .slice (some ⟨s, 0, none⟩) 1 1] V fun e w' => e = .returned (.tuple #[.agg #[.string ⟨#[]⟩, .string ⟨#[]⟩, .int .i64 0, .bool false, .string ⟨#[]⟩, .slice none 0 0], .int .i64 0, .int .i64 112]) ∧ Below V.heap.size V w' := by
  have HO1 := Lib.hid (fun (W : World) (h : Kd.C k68 W (some ⟨s, 0, none⟩) 1 liveP1) => show Calls Tryz.prog 69 #[.slice (some ⟨s, 0, none⟩) 1 1, .string ⟨#[99, 108, 105, 101, 110, 116, 95, 105, 100]⟩] W (fun e w' => e = .returned (.tuple #[.string ⟨#[98, 111, 120]⟩, .bool true, .int .i64 0]) ∧ Below W.heap.size W w') from urlform_One.calls 400 (some ⟨s, 0, none⟩) 1 liveP1 ⟨#[99, 108, 105, 101, 110, 116, 95, 105, 100]⟩ _ _ _ W h (Nat.le_refl _) (by kernel_rfl))
  have HO2 := Lib.hid (fun (W : World) (h : Kd.C k68 W (some ⟨s, 0, none⟩) 1 liveP1) => show Calls Tryz.prog 69 #[.slice (some ⟨s, 0, none⟩) 1 1, .string ⟨#[99, 108, 105, 101, 110, 116, 95, 115, 101, 99, 114, 101, 116]⟩] W (fun e w' => e = .returned (.tuple #[.string ⟨#[]⟩, .bool false, .int .i64 0]) ∧ Below W.heap.size W w') from urlform_One.calls 400 (some ⟨s, 0, none⟩) 1 liveP1 ⟨#[99, 108, 105, 101, 110, 116, 95, 115, 101, 99, 114, 101, 116]⟩ _ _ _ W h (Nat.le_refl _) (by kernel_rfl))
  have HF := Lib.hid (fun (W : World) (h : Kd.C k40 W (some ⟨g, 0, none⟩) 2 liveL) => show Calls Tryz.prog 29 #[.slice (some ⟨g, 0, none⟩) 2 c, .string ⟨#[98, 111, 120]⟩] W (fun e w' => ∃ (g2 c5 : Nat) (cs : Array Value), e = .returned (.tuple #[.agg #[.string ⟨#[98, 111, 120]⟩, .string ⟨#[115]⟩, .int .i64 2, .bool false, .string ⟨#[]⟩, .slice (some ⟨g2, 0, none⟩) 1 c5], .bool true]) ∧ 1 ≤ c5 ∧ W.heap.size ≤ g2 ∧ w'.heap[g2]? = some (.cells cs 9 (0, 0)) ∧ cs[0]? = some (.string ⟨#[112, 97, 121]⟩) ∧ Below W.heap.size W w') from by
    refine (client_Find.calls 400 (some ⟨g, 0, none⟩) c liveL ⟨#[98, 111, 120]⟩ ⟨#[98, 111, 120]⟩ ⟨#[115]⟩ 2 false ⟨#[]⟩ [⟨#[112, 97, 121]⟩] true W h h3 (by kernel_rfl)).mono ?_
    rintro e w' ⟨v5, rfl, hR, hb⟩
    obtain ⟨g2, c5, rfl, hg2, _, cs, hcs⟩ := Kd.R_form hR (by decide)
    obtain ⟨_, hl, hC⟩ := Kd.R_reads' hR
    obtain ⟨ad, cc, hA, _, hK, hcell⟩ := Kd.C_get hC (⟨#[]⟩ : ByteArray) 0 (by omega) (by decide)
    obtain rfl : (⟨g2, 0, none⟩ : Addr) = ad := Option.some.inj hA
    have hK' : cc = [.string ⟨#[112, 97, 121]⟩] := hK
    subst hK'
    exact ⟨g2, c5, cs, rfl, hl, hg2, hcs, (blk_cell hcs 0).symm.trans (hcell 0 _ rfl), hb⟩)
  go_enter Tryz.func34, Tryz.ntmps34
  go_upto_region 1 with ((with_reducible refine gate_dst (N := 6) rfl ?_); refine box_event ?hg (N := 6) ?hd (cs := #[.string ⟨#[]⟩, .string ⟨#[]⟩, .int .i64 0, .bool false, .string ⟨#[]⟩, .slice none 0 0]) (t := 40) ?hr ?_; (case hd => rfl); (case hg => rfl); (case hr => first | (go_simp; done) | (go_simp; rfl)); intro q hg w_q hbox hb; have BQ := Lib.hid hbox; have GE := Lib.hid ((by rw [hg]; exact Nat.le_refl _) : V.heap.size ≤ q); have HB := Lib.hid hb; have HC := Lib.hid (Kd.C_below h1 hb); have HD := Lib.hid (Kd.C_below h2 hb); clear hbox hg hb h1 h2)
  go_wp2_with (first | (go_at_call 69; (with_reducible refine (HO1.out _ HD.out).mono ?_); rintro e w1 ⟨rfl, hb⟩; have n1_ := Lib.hid (below_step HB.out hb); have n2_ := Lib.hid (blk_below BQ.out hb); have n3_ := Lib.hid (Kd.C_below HC.out hb); have n4_ := Lib.hid (Kd.C_below HD.out hb); clear HB BQ HC HD; have HB := n1_; have BQ := n2_; have HC := n3_; have HD := n4_; clear n1_ n2_ n3_ n4_ hb) | (go_at_call 69; (with_reducible refine (HO2.out _ HD.out).mono ?_); rintro e w2 ⟨rfl, hb⟩; have n1_ := Lib.hid (below_step HB.out hb); have n2_ := Lib.hid (blk_below BQ.out hb); have n3_ := Lib.hid (Kd.C_below HC.out hb); have n4_ := Lib.hid (Kd.C_below HD.out hb); clear HB BQ HC HD; have HB := n1_; have BQ := n2_; have HC := n3_; have HD := n4_; clear n1_ n2_ n3_ n4_ hb) | (go_at_call 29; (with_reducible refine (HF.out _ HC.out).mono ?_); rintro e w3 ⟨g2, c5, cs, rfl, hc5, hg2, hcs, h0, hb⟩; have NE := Lib.hid ((by have := blk_lt BQ.out; omega) : g2 ≠ q); have H5 := Lib.hid hc5; have H0 := Lib.hid h0; have BF := Lib.hid hcs; clear hc5 hg2 hcs h0; have n1_ := Lib.hid (below_step HB.out hb); have n2_ := Lib.hid (blk_below BQ.out hb); have n3_ := Lib.hid (Kd.C_below HC.out hb); have n4_ := Lib.hid (Kd.C_below HD.out hb); clear HB BQ HC HD; have HB := n1_; have BQ := n2_; have HC := n3_; have HD := n4_; clear n1_ n2_ n3_ n4_ hb) | (go_at_call 70; (with_reducible refine (proven_no _ _ _).mono ?_); rintro e w4 ⟨rfl, hb⟩; have n1_ := Lib.hid (below_step (below_alloc HB.out _) hb); have n2_ := Lib.hid (blk_below (blk_alloc BQ.out _) hb); have n5_ := Lib.hid (blk_below (blk_alloc BF.out _) hb); clear HB BQ BF HC HD hb; have HB := n1_; have BQ := n2_; have BF := n5_; clear n1_ n2_ n5_; have c60 := (blk_cell BQ.out 0).trans rfl; have f60 := blk_frozen BQ.out 0; have c61 := (blk_cell BQ.out 1).trans rfl; have f61 := blk_frozen BQ.out 1; have c62 := (blk_cell BQ.out 2).trans rfl; have f62 := blk_frozen BQ.out 2; have c63 := (blk_cell BQ.out 3).trans rfl; have f63 := blk_frozen BQ.out 3; have c64 := (blk_cell BQ.out 4).trans rfl; have f64 := blk_frozen BQ.out 4; have c65 := (blk_cell BQ.out 5).trans rfl; have f65 := blk_frozen BQ.out 5))
  refine bodyPost_ret (results_ctt rfl _ _ q 40 #[.string ⟨#[]⟩, .string ⟨#[]⟩, .int .i64 0, .bool false, .string ⟨#[]⟩, .slice none 0 0] (0, 0) _ rfl (put_six BQ.out _ _ _ _ _ _) Tryz.underlying40 rfl (by kernel_rfl)) rfl ?_
  exact ⟨rfl, below_six HB.out GE.out _ _ _ _ _ _⟩
end Go.Proofs.YtmimipgmhgalaaaGreatDoor.PAll
end
section
namespace Go.Proofs.YtmimipgmhgalaaaGreatDoor.PAll
open Go.RowKit Go.Proofs.YtmimipgmhgalaaaGreatDoorW.PrintWords Go.Proofs.YtmimipgmhgalaaaGreatDoorW.PrintLast Go.Proofs.YtmimipgmhgalaaaGreatDoorW.PrintMore
set_option linter.unusedVariables false
set_option linter.unusedSimpArgs false
def meantS (l5 : List ByteArray) (a1 : ByteArray) (l : List ByteArray) : List ByteArray := if a1 = ⟨#[]⟩ then l5 else l
def client_Scope.f (k : Nat) (a0_0 a0_1 : ByteArray) (a0_2 : Int) (a0_3 : Bool) (a0_4 : ByteArray) (l0_5 : List ByteArray) (a1 : ByteArray) : Option (ByteArray × Int) :=
  (urlform_Scopes.f k a1).bind fun t => if t.2 = 0 then ((urlform_Within.f k (meantS l0_5 a1 t.1) l0_5).bind fun b => if b = true then ((strings_Join.f (meantS l0_5 a1 t.1) ⟨#[32]⟩).bind fun s => some (s, 0)) else some (⟨#[]⟩, 114)) else some (⟨#[]⟩, 114)
theorem emptyS_no {a : ByteArray} (h : ¬a = ⟨#[]⟩) : (a.toList == ([] : List UInt8)) = false := by
  refine beq_eq_false_iff_ne.mpr fun h1 => h ?_
  obtain ⟨⟨l⟩⟩ := a
  rw [Lib.toList_data] at h1
  exact congrArg (fun l => (⟨⟨l⟩⟩ : ByteArray)) h1
set_option maxRecDepth 100000 in
set_option maxHeartbeats 1000000 in
theorem client_Scope.calls (k : Nat) (a0_0 a0_1 : ByteArray) (a0_2 : Int) (a0_3 : Bool) (a0_4 : ByteArray) (A0_5 : Option Addr) (c0_5 : Nat) (l0_5 : List ByteArray) (a1 : ByteArray) (r1 : ByteArray) (r2 : Int) (w : World) (hr0_5 : Kd.C Kd.string w A0_5 l0_5.length l0_5) (hc0_5 : l0_5.length ≤ c0_5)
    (h : client_Scope.f k a0_0 a0_1 a0_2 a0_3 a0_4 l0_5 a1 = some (r1, r2)) :
    Calls Tryz.prog 37 #[.agg #[.string a0_0, .string a0_1, .int .i64 a0_2, .bool a0_3, .string a0_4, .slice A0_5 l0_5.length c0_5], .string a1] w fun e w' => e = .returned (.tuple #[.string r1, .int .i64 r2]) ∧ Below w.heap.size w w' := by
  unfold client_Scope.f at h
  obtain ⟨⟨ls, e⟩, hs, h⟩ := Option.bind_eq_some_iff.1 h
  obtain ⟨n5, hn5⟩ : ∃ n, n = l0_5.length := ⟨_, rfl⟩
  have HS := Lib.hid hs
  have hsc : ∀ V : World, Calls Tryz.prog 54 #[.string a1] V fun e' w' => ∃ (A' : Option Addr) (c' n' : Nat), e' = .returned (.tuple #[.slice A' n' c', .int .i64 e]) ∧ n' = ls.length ∧ n' ≤ c' ∧ Kd.C Kd.string w' A' ls.length ls ∧ Below V.heap.size V w' := fun V => by
    refine (urlform_Scopes.calls k a1 ls e V HS.out).mono fun e' w' ⟨v, he, hR, hb⟩ => ?_
    obtain ⟨A', c', hv, hl, hC⟩ := Kd.R_reads hR
    subst hv
    exact ⟨A', c', _, he, rfl, hl, hC, hb⟩
  have HSC := Lib.hid hsc
  clear hs hsc
  by_cases he : e = 0
  · subst he
    have h1 : (urlform_Within.f k (meantS l0_5 a1 ls) l0_5).bind (fun b => if b = true then ((strings_Join.f (meantS l0_5 a1 ls) ⟨#[32]⟩).bind fun s => some (s, 0)) else some (⟨#[]⟩, 114)) = some (r1, r2) := h
    obtain ⟨b, hb, h2⟩ := Option.bind_eq_some_iff.1 h1
    have hwi : ∀ (V : World) (A' : Option Addr) (c' n' : Nat), n' = (meantS l0_5 a1 ls).length → n' ≤ c' → Kd.C Kd.string V A' (meantS l0_5 a1 ls).length (meantS l0_5 a1 ls) → Below w.heap.size w V → Calls Tryz.prog 72 #[.slice A' n' c', .slice A0_5 n5 c0_5] V fun e' w' => e' = .returned (.bool b) ∧ Below V.heap.size V w' := fun V A' c' n' h3 h4 h5 h6 => by
      subst h3
      rw [hn5]
      exact (urlform_Within.calls k A' c' _ A0_5 c0_5 l0_5 b V h5 h4 (Kd.C_below hr0_5 h6) hc0_5 hb).mono fun e' w' ⟨h7, h8⟩ => ⟨h7, h8.below⟩
    have HWI := Lib.hid hwi
    rw [← hn5]
    by_cases ha : a1 = ⟨#[]⟩
    · have hm : meantS l0_5 a1 ls = l0_5 := if_pos ha
      rw [hm] at h2 HWI
      subst ha
      have HN5 := Lib.hid hn5; have HR := Lib.hid hr0_5; have HC := Lib.hid hc0_5
      have hc5 := Lib.hid (show n5 ≤ c0_5 by rw [hn5]; exact hc0_5)
      clear hn5 hr0_5 hc0_5 hm h h1 hwi hb
      cases b with
      | true =>
        obtain ⟨s, hs, h3⟩ := Option.bind_eq_some_iff.1 (show (strings_Join.f l0_5 ⟨#[32]⟩).bind (fun s => some (s, (0 : Int))) = some (r1, r2) from h2)
        obtain ⟨rfl, rfl⟩ := Prod.mk.inj (Option.some.inj h3)
        have HJ := Lib.hid (fun (V : World) (h5 : Kd.C Kd.string V A0_5 l0_5.length l0_5) => show Calls Tryz.prog 55 #[.slice A0_5 n5 c0_5, .string ⟨#[32]⟩] V (fun e w' => e = .returned (.string s) ∧ Below V.heap.size V w') by rw [HN5.out]; exact strings_Join.calls A0_5 c0_5 l0_5 ⟨#[32]⟩ s V h5 HC.out hs)
        clear h2 h3 hs
        go_enter Tryz.func37, Tryz.ntmps37
        go_wp2_with (first | ((with_reducible refine gate_dst (N := 2) rfl ?_); refine box_event ?hg (N := 2) ?hd (cs := #[.string a0_0, .string a0_1, .int .i64 a0_2, .bool a0_3, .string a0_4, .slice A0_5 n5 c0_5]) (t := 40) ?hr ?_; (case hd => rfl); (case hg => rfl); (case hr => first | (go_simp; done) | (go_simp; rfl)); intro gb hg w3 hbox hb; have GW := Lib.hid ((by rw [hg]; exact Nat.le_refl _) : w.heap.size ≤ gb); have HX := Lib.hid hbox; have HB := Lib.hid hb; clear hg hbox hb))
        refine (HSC.out _).mono ?_
        rintro e1 w4 ⟨A1, c1, n1, rfl, hn1, hl1, hC1, hb1⟩
        have BK := Lib.hid (blk_below (g := gb) (o := .cells #[.string a0_0, .string a0_1, .int .i64 a0_2, .bool a0_3, .string a0_4, .slice A0_5 n5 c0_5] 40 (0, 0)) HX.out hb1)
        have HB2 := Lib.hid (below_step HB.out hb1)
        have hcz := (blk_cell BK.out 5).trans rfl
        have hfz := blk_frozen BK.out 5
        have HN := Lib.hid hn1; have HL := Lib.hid hl1; have HC1 := Lib.hid hC1
        clear hn1 hl1 hC1 hb1 HX HB
        go_wp2_with (first | (go_at_call 72; (with_reducible refine (HWI.out _ _ _ _ HN5.out hc5.out (Kd.C_below HR.out HB2.out) HB2.out).mono ?_); rintro e2 w5 ⟨rfl, hb2⟩; have HB9 := Lib.hid (below_step HB2.out hb2); have HB5 := Lib.hid hb2; clear hb2) | (go_at_call 55; (with_reducible refine (HJ.out _ (Kd.C_below HR.out HB9.out)).mono ?_); rintro e3 w6 ⟨rfl, hb3⟩; have HB8 := HB9; clear HB9; have HB9 := Lib.hid (below_step HB8.out hb3); clear hb3))
        go_ret2
        exact ⟨by first | rfl | (simp [*]; done), by repeat (first | (with_reducible first | exact HB9.out | apply below_alloc | apply pw_below_drewN | apply below_drew1) | exact HB9.out)⟩
      | false =>
        obtain ⟨rfl, rfl⟩ := Prod.mk.inj (Option.some.inj (show some ((⟨#[]⟩ : ByteArray), (114 : Int)) = some (r1, r2) from h2))
        clear h2
        go_enter Tryz.func37, Tryz.ntmps37
        go_wp2_with (first | ((with_reducible refine gate_dst (N := 2) rfl ?_); refine box_event ?hg (N := 2) ?hd (cs := #[.string a0_0, .string a0_1, .int .i64 a0_2, .bool a0_3, .string a0_4, .slice A0_5 n5 c0_5]) (t := 40) ?hr ?_; (case hd => rfl); (case hg => rfl); (case hr => first | (go_simp; done) | (go_simp; rfl)); intro gb hg w3 hbox hb; have GW := Lib.hid ((by rw [hg]; exact Nat.le_refl _) : w.heap.size ≤ gb); have HX := Lib.hid hbox; have HB := Lib.hid hb; clear hg hbox hb))
        refine (HSC.out _).mono ?_
        rintro e1 w4 ⟨A1, c1, n1, rfl, hn1, hl1, hC1, hb1⟩
        have BK := Lib.hid (blk_below (g := gb) (o := .cells #[.string a0_0, .string a0_1, .int .i64 a0_2, .bool a0_3, .string a0_4, .slice A0_5 n5 c0_5] 40 (0, 0)) HX.out hb1)
        have HB2 := Lib.hid (below_step HB.out hb1)
        have hcz := (blk_cell BK.out 5).trans rfl
        have hfz := blk_frozen BK.out 5
        have HN := Lib.hid hn1; have HL := Lib.hid hl1; have HC1 := Lib.hid hC1
        clear hn1 hl1 hC1 hb1 HX HB
        go_wp2_with (first | (go_at_call 72; (with_reducible refine (HWI.out _ _ _ _ HN5.out hc5.out (Kd.C_below HR.out HB2.out) HB2.out).mono ?_); rintro e2 w5 ⟨rfl, hb2⟩; have HB9 := Lib.hid (below_step HB2.out hb2); have HB5 := Lib.hid hb2; clear hb2))
        go_ret2
        exact ⟨by first | rfl | (simp [*]; done), by repeat (first | (with_reducible first | exact HB9.out | apply below_alloc | apply pw_below_drewN | apply below_drew1) | exact HB9.out)⟩
    · have hm : meantS l0_5 a1 ls = ls := if_neg ha
      rw [hm] at h2 HWI
      have hne : (a1.toList == ([] : List UInt8)) = false := emptyS_no ha
      have HN5 := Lib.hid hn5; have HR := Lib.hid hr0_5; have HC := Lib.hid hc0_5
      clear hn5 hr0_5 hc0_5 hm h h1 hwi hb
      cases b with
      | true =>
        obtain ⟨s, hs, h3⟩ := Option.bind_eq_some_iff.1 (show (strings_Join.f ls ⟨#[32]⟩).bind (fun s => some (s, (0 : Int))) = some (r1, r2) from h2)
        obtain ⟨rfl, rfl⟩ := Prod.mk.inj (Option.some.inj h3)
        have HJ := Lib.hid (fun (V : World) (A' : Option Addr) (c' n' : Nat) (h3 : n' = ls.length) (h4 : n' ≤ c') (h5 : Kd.C Kd.string V A' ls.length ls) => show Calls Tryz.prog 55 #[.slice A' n' c', .string ⟨#[32]⟩] V (fun e w' => e = .returned (.string s) ∧ Below V.heap.size V w') by subst h3; exact strings_Join.calls A' c' ls ⟨#[32]⟩ s V h5 h4 hs)
        clear h2 h3 hs
        go_enter Tryz.func37, Tryz.ntmps37
        go_wp2_with (first | ((with_reducible refine gate_dst (N := 2) rfl ?_); refine box_event ?hg (N := 2) ?hd (cs := #[.string a0_0, .string a0_1, .int .i64 a0_2, .bool a0_3, .string a0_4, .slice A0_5 n5 c0_5]) (t := 40) ?hr ?_; (case hd => rfl); (case hg => rfl); (case hr => first | (go_simp; done) | (go_simp; rfl)); intro gb hg w3 hbox hb; have GW := Lib.hid ((by rw [hg]; exact Nat.le_refl _) : w.heap.size ≤ gb); have HX := Lib.hid hbox; have HB := Lib.hid hb; clear hg hbox hb))
        refine (HSC.out _).mono ?_
        rintro e1 w4 ⟨A1, c1, n1, rfl, hn1, hl1, hC1, hb1⟩
        have BK := Lib.hid (blk_below (g := gb) (o := .cells #[.string a0_0, .string a0_1, .int .i64 a0_2, .bool a0_3, .string a0_4, .slice A0_5 n5 c0_5] 40 (0, 0)) HX.out hb1)
        have HB2 := Lib.hid (below_step HB.out hb1)
        have hcz := (blk_cell BK.out 5).trans rfl
        have hfz := blk_frozen BK.out 5
        have HN := Lib.hid hn1; have HL := Lib.hid hl1; have HC1 := Lib.hid hC1
        clear hn1 hl1 hC1 hb1 HX HB
        go_wp2_with (first | (go_at_call 72; (with_reducible refine (HWI.out _ _ _ _ HN.out HL.out HC1.out HB2.out).mono ?_); rintro e2 w5 ⟨rfl, hb2⟩; have HB9 := Lib.hid (below_step HB2.out hb2); have HB5 := Lib.hid hb2; clear hb2) | (go_at_call 55; (with_reducible refine (HJ.out _ _ _ _ HN.out HL.out (Kd.C_below HC1.out HB5.out)).mono ?_); rintro e3 w6 ⟨rfl, hb3⟩; have HB8 := HB9; clear HB9; have HB9 := Lib.hid (below_step HB8.out hb3); clear hb3))
        go_ret2
        exact ⟨by first | rfl | (simp [*]; done), by repeat (first | (with_reducible first | exact HB9.out | apply below_alloc | apply pw_below_drewN | apply below_drew1) | exact HB9.out)⟩
      | false =>
        obtain ⟨rfl, rfl⟩ := Prod.mk.inj (Option.some.inj (show some ((⟨#[]⟩ : ByteArray), (114 : Int)) = some (r1, r2) from h2))
        clear h2
        go_enter Tryz.func37, Tryz.ntmps37
        go_wp2_with (first | ((with_reducible refine gate_dst (N := 2) rfl ?_); refine box_event ?hg (N := 2) ?hd (cs := #[.string a0_0, .string a0_1, .int .i64 a0_2, .bool a0_3, .string a0_4, .slice A0_5 n5 c0_5]) (t := 40) ?hr ?_; (case hd => rfl); (case hg => rfl); (case hr => first | (go_simp; done) | (go_simp; rfl)); intro gb hg w3 hbox hb; have GW := Lib.hid ((by rw [hg]; exact Nat.le_refl _) : w.heap.size ≤ gb); have HX := Lib.hid hbox; have HB := Lib.hid hb; clear hg hbox hb))
        refine (HSC.out _).mono ?_
        rintro e1 w4 ⟨A1, c1, n1, rfl, hn1, hl1, hC1, hb1⟩
        have BK := Lib.hid (blk_below (g := gb) (o := .cells #[.string a0_0, .string a0_1, .int .i64 a0_2, .bool a0_3, .string a0_4, .slice A0_5 n5 c0_5] 40 (0, 0)) HX.out hb1)
        have HB2 := Lib.hid (below_step HB.out hb1)
        have hcz := (blk_cell BK.out 5).trans rfl
        have hfz := blk_frozen BK.out 5
        have HN := Lib.hid hn1; have HL := Lib.hid hl1; have HC1 := Lib.hid hC1
        clear hn1 hl1 hC1 hb1 HX HB
        go_wp2_with (first | (go_at_call 72; (with_reducible refine (HWI.out _ _ _ _ HN.out HL.out HC1.out HB2.out).mono ?_); rintro e2 w5 ⟨rfl, hb2⟩; have HB9 := Lib.hid (below_step HB2.out hb2); have HB5 := Lib.hid hb2; clear hb2))
        go_ret2
        exact ⟨by first | rfl | (simp [*]; done), by repeat (first | (with_reducible first | exact HB9.out | apply below_alloc | apply pw_below_drewN | apply below_drew1) | exact HB9.out)⟩
  · obtain ⟨rfl, rfl⟩ := Prod.mk.inj (Option.some.inj (show some ((⟨#[]⟩ : ByteArray), (114 : Int)) = some (r1, r2) from by rw [← h]; exact (if_neg he).symm))
    have he1 : decide (e = 0) = false := decide_eq_false he
    have HN5 := Lib.hid hn5; have HR := Lib.hid hr0_5; have HC := Lib.hid hc0_5
    rw [← hn5]
    clear h hn5 hr0_5 hc0_5
    by_cases ha : a1 = ⟨#[]⟩
    · subst ha
      go_enter Tryz.func37, Tryz.ntmps37
      go_wp2_with (first | ((with_reducible refine gate_dst (N := 2) rfl ?_); refine box_event ?hg (N := 2) ?hd (cs := #[.string a0_0, .string a0_1, .int .i64 a0_2, .bool a0_3, .string a0_4, .slice A0_5 n5 c0_5]) (t := 40) ?hr ?_; (case hd => rfl); (case hg => rfl); (case hr => first | (go_simp; done) | (go_simp; rfl)); intro gb hg w3 hbox hb; have GW := Lib.hid ((by rw [hg]; exact Nat.le_refl _) : w.heap.size ≤ gb); have HX := Lib.hid hbox; have HB := Lib.hid hb; clear hg hbox hb))
      refine (HSC.out _).mono ?_
      rintro e1 w4 ⟨A1, c1, n1, rfl, hn1, hl1, hC1, hb1⟩
      have BK := Lib.hid (blk_below (g := gb) (o := .cells #[.string a0_0, .string a0_1, .int .i64 a0_2, .bool a0_3, .string a0_4, .slice A0_5 n5 c0_5] 40 (0, 0)) HX.out hb1)
      have HB2 := Lib.hid (below_step HB.out hb1)
      have hcz := (blk_cell BK.out 5).trans rfl
      have hfz := blk_frozen BK.out 5
      have HN := Lib.hid hn1; have HL := Lib.hid hl1; have HC1 := Lib.hid hC1
      clear hn1 hl1 hC1 hb1 HX HB
      have HB9 := HB2
      go_wp2
      go_ret2
      exact ⟨by first | rfl | (simp [*]; done), by repeat (first | (with_reducible first | exact HB9.out | apply below_alloc | apply pw_below_drewN | apply below_drew1) | exact HB9.out)⟩
    · have hne : (a1.toList == ([] : List UInt8)) = false := emptyS_no ha
      go_enter Tryz.func37, Tryz.ntmps37
      go_wp2_with (first | ((with_reducible refine gate_dst (N := 2) rfl ?_); refine box_event ?hg (N := 2) ?hd (cs := #[.string a0_0, .string a0_1, .int .i64 a0_2, .bool a0_3, .string a0_4, .slice A0_5 n5 c0_5]) (t := 40) ?hr ?_; (case hd => rfl); (case hg => rfl); (case hr => first | (go_simp; done) | (go_simp; rfl)); intro gb hg w3 hbox hb; have GW := Lib.hid ((by rw [hg]; exact Nat.le_refl _) : w.heap.size ≤ gb); have HX := Lib.hid hbox; have HB := Lib.hid hb; clear hg hbox hb))
      refine (HSC.out _).mono ?_
      rintro e1 w4 ⟨A1, c1, n1, rfl, hn1, hl1, hC1, hb1⟩
      have BK := Lib.hid (blk_below (g := gb) (o := .cells #[.string a0_0, .string a0_1, .int .i64 a0_2, .bool a0_3, .string a0_4, .slice A0_5 n5 c0_5] 40 (0, 0)) HX.out hb1)
      have HB2 := Lib.hid (below_step HB.out hb1)
      have hcz := (blk_cell BK.out 5).trans rfl
      have hfz := blk_frozen BK.out 5
      have HN := Lib.hid hn1; have HL := Lib.hid hl1; have HC1 := Lib.hid hC1
      clear hn1 hl1 hC1 hb1 HX HB
      have HB9 := HB2
      go_wp2
      go_ret2
      exact ⟨by first | rfl | (simp [*]; done), by repeat (first | (with_reducible first | exact HB9.out | apply below_alloc | apply pw_below_drewN | apply below_drew1) | exact HB9.out)⟩
end Go.Proofs.YtmimipgmhgalaaaGreatDoor.PAll
end
section
namespace Go.Proofs.YtmimipgmhgalaaaGreatDoor.PAll
open Go.RowKit Go.Proofs.YtmimipgmhgalaaaGreatDoorW.PrintWords Go.Proofs.YtmimipgmhgalaaaGreatDoorW.PrintLast Go.Proofs.YtmimipgmhgalaaaGreatDoorW.PrintMore
set_option linter.unusedVariables false
set_option linter.unusedSimpArgs false
abbrev liveText : ByteArray := ⟨#[105, 100, 61, 98, 111, 120, 38, 115, 101, 99, 114, 101, 116, 61, 115, 38, 103, 114, 97, 110, 116, 115, 61, 99, 105, 98, 97, 38, 115, 99, 111, 112, 101, 61, 112, 97, 121, 10, 105, 100, 61, 116, 118, 38, 103, 114, 97, 110, 116, 115, 61, 100, 101, 118, 105, 99, 101, 10]⟩
theorem live_parse : client_Parse.f 400 liveText = some (liveL, 0, 0) := by kernel_rfl
theorem live_scope : client_Scope.f 400 ⟨#[98, 111, 120]⟩ ⟨#[115]⟩ 2 false ⟨#[]⟩ [⟨#[112, 97, 121]⟩] ⟨#[]⟩ = some (⟨#[112, 97, 121]⟩, 0) := by kernel_rfl
theorem c68_one {w : World} {g : Nat} {t : TypeId} {x : S68} (h : w.heap[g]? = some (.cells #[.string x.f0, .string x.f1] t (0, 0))) : Kd.C k68 w (some ⟨g, 0, none⟩) 1 [x] := by
  refine ⟨rfl, by omega, fun _ => ⟨_, rfl, fun j p hj => ?_⟩⟩
  rcases j with _ | j
  · obtain rfl : x = p := Option.some.inj hj
    refine ⟨_, rfl, k68_mk w x, fun i u hu => ?_⟩
    rw [← hu]
    rcases i with _ | _ | i
    · exact blk_cell h 0
    · exact blk_cell h 1
    · cases hu
  · cases hj
theorem c68_two {w : World} {g : Nat} {t : TypeId} {x y : S68} (h : w.heap[g]? = some (.cells #[.string x.f0, .string x.f1, .string y.f0, .string y.f1] t (0, 0))) : Kd.C k68 w (some ⟨g, 0, none⟩) 2 [x, y] := by
  refine ⟨rfl, by omega, fun _ => ⟨_, rfl, fun j p hj => ?_⟩⟩
  rcases j with _ | _ | j
  · obtain rfl : x = p := Option.some.inj hj
    refine ⟨_, rfl, k68_mk w x, fun i u hu => ?_⟩
    rw [← hu]
    rcases i with _ | _ | i
    · exact blk_cell h 0
    · exact blk_cell h 1
    · cases hu
  · obtain rfl : y = p := Option.some.inj hj
    refine ⟨_, rfl, k68_mk w y, fun i u hu => ?_⟩
    rw [← hu]
    rcases i with _ | _ | i
    · exact blk_cell h 2
    · exact blk_cell h 3
    · cases hu
  · cases hj
def wicketlaw11_live.f : Option Bool := some true
theorem live_num (a0 : Int) (w : World) : Calls Tryz.prog 19 #[.int .i64 a0] w fun e w' => e = .returned (.int .i64 a0) ∧ Drawn0 w w' := by
  go_enter Tryz.func19, Tryz.ntmps19
  go_wp2
  go_ret
  exact ⟨rfl, by repeat (first | exact Drawn0.refl _ | apply Drawn0.step)⟩
theorem blk_new2 (w : World) (o o' : Obj) : ((w.alloc o).alloc o').heap[w.heap.size + 1]? = some o' := by
  have h := blk_new (w.alloc o) o'
  rwa [show (w.alloc o).heap.size = w.heap.size + 1 from Array.size_push _] at h
set_option maxRecDepth 100000 in
set_option maxHeartbeats 1000000 in
theorem wicketlaw11_live.calls (r : Bool) (w : World) (h : wicketlaw11_live.f = some r) : Calls Tryz.prog 21 #[] w fun e w' => e = .returned (.bool r) ∧ Below w.heap.size w w' := by
  obtain rfl : true = r := Option.some.inj h
  clear h
  have HA2 := Lib.hid auth_yes
  have HA1 := Lib.hid auth_no
  have HSC := Lib.hid (fun (V : World) (A : Option Addr) (c : Nat) (h1 : Kd.C Kd.string V A 1 [⟨#[112, 97, 121]⟩]) (h2 : 1 ≤ c) => show Calls Tryz.prog 37 #[.agg #[.string ⟨#[98, 111, 120]⟩, .string ⟨#[115]⟩, .int .i64 2, .bool false, .string ⟨#[]⟩, .slice A 1 c], .string ⟨#[]⟩] V (fun e w' => e = .returned (.tuple #[.string ⟨#[112, 97, 121]⟩, .int .i64 0]) ∧ Below V.heap.size V w') from
    client_Scope.calls 400 ⟨#[98, 111, 120]⟩ ⟨#[115]⟩ 2 false ⟨#[]⟩ A c [⟨#[112, 97, 121]⟩] ⟨#[]⟩ _ _ V h1 h2 live_scope)
  go_enter Tryz.func21, Tryz.ntmps21
  go_wp2_with (fail)
  refine (client_Parse.calls 400 liveText liveL 0 0 _ live_parse).mono ?_
  rintro e w1 ⟨v0, rfl, hS, hb⟩
  obtain ⟨g, c, rfl, hg, _, cs1, hcs⟩ := Kd.S_form hS (by decide)
  obtain ⟨_, hc, hC⟩ := Kd.S_reads' hS
  clear hS
  have HL := Lib.hid (show (2 : Nat) ≤ c from hc)
  have HC := Lib.hid (show Kd.C k40 w1 (some ⟨g, 0, none⟩) 2 liveL from hC)
  have HB := Lib.hid hb
  obtain ⟨ad, A5, c5, hA, _, h01, _⟩ := at_T40 HC.out 0 (by omega) (by omega)
  obtain ⟨ad', A6, c6, hA', _, _, h12, _⟩ := at_T40 HC.out 1 (by omega) (by omega)
  obtain rfl : (⟨g, 0, none⟩ : Addr) = ad := Option.some.inj hA
  obtain rfl : (⟨g, 0, none⟩ : Addr) = ad' := Option.some.inj hA'
  replace h01 : w1.cell? ⟨g, 1, none⟩ = some (.string ⟨#[115]⟩) := h01
  replace h12 : w1.cell? ⟨g, 8, none⟩ = some (.int .i64 1) := h12
  have hf1 := blk_frozen hcs 1
  have hf8 := blk_frozen hcs 8
  have HX := Lib.hid hcs
  clear hA hA' hb hC hc hcs hg
  rw [show liveL.length = 2 from rfl]
  go_wp2_with (go_at_call 19; (with_reducible refine (live_num 0 _).mono ?_); rintro e w2 ⟨rfl, ⟨nd, rfl⟩⟩)
  refine (HA2.out _ _ _ _ (Kd.C_alloc (Kd.C_drewN HC.out nd) _) (c68_two (x := ⟨_, _⟩) (y := ⟨_, _⟩) (blk_new (w1.drewN nd) _)) HL.out).mono ?_
  rintro e w3 ⟨A3, c3, rfl, hc3, hC3, hb3⟩
  have HB3 := Lib.hid (below_step (below_alloc (pw_below_drewN HB.out nd) _) hb3)
  have HC3 := Lib.hid (Kd.C_below (Kd.C_alloc (Kd.C_drewN HC.out nd) _) hb3)
  have HS3 := Lib.hid hC3
  have HL3 := Lib.hid hc3
  clear hc3 hC3 hb3 HB HC h01 h12 hf1 hf8 HX
  go_wp2_with (fail)
  refine (HA1.out _ _ _ _ (Kd.C_alloc (Kd.C_alloc HC3.out _) _) (c68_one (x := ⟨_, _⟩) (blk_new2 w3 _ _)) HL.out).mono ?_
  rintro e w5 ⟨rfl, hb5⟩
  have BK := Lib.hid (blk_below (blk_alloc (blk_new w3 _) _) hb5)
  have HB5 := Lib.hid (below_step (below_alloc (below_alloc HB3.out _) _) hb5)
  have HS5 := Lib.hid (Kd.C_below (Kd.C_alloc (Kd.C_alloc HS3.out _) _) hb5)
  obtain ⟨p, hp⟩ : ∃ p, p = w3.heap.size := ⟨_, rfl⟩
  rw [← hp] at BK ⊢
  clear hb5 HB3 HC3 HS3 hp
  go_upto_region 6 with (fail)
  have BK6 := Lib.hid (blk_alloc BK.out (Obj.cells #[.string ⟨#[]⟩, .string ⟨#[]⟩, .int .i64 0, .bool false, .string ⟨#[]⟩, .slice none 0 0] 40))
  have HB6 := Lib.hid (below_alloc HB5.out (Obj.cells #[.string ⟨#[]⟩, .string ⟨#[]⟩, .int .i64 0, .bool false, .string ⟨#[]⟩, .slice none 0 0] 40))
  have HS6 := Lib.hid (Kd.C_alloc HS5.out (Obj.cells #[.string ⟨#[]⟩, .string ⟨#[]⟩, .int .i64 0, .bool false, .string ⟨#[]⟩, .slice none 0 0] 40))
  clear BK HB5 HS5
  obtain ⟨q, hq⟩ : ∃ q, q = w5.heap.size := ⟨_, rfl⟩
  rw [← hq]
  generalize hW : w5.alloc (Obj.cells #[.string ⟨#[]⟩, .string ⟨#[]⟩, .int .i64 0, .bool false, .string ⟨#[]⟩, .slice none 0 0] 40) = w6
  rw [hW] at BK6 HB6 HS6
  clear hW hq
  have h50 := blk_cell BK6.out 0
  have h51 := blk_cell BK6.out 1
  have h52 := blk_cell BK6.out 2
  have h53 := blk_cell BK6.out 3
  have h54 := blk_cell BK6.out 4
  have h55 := blk_cell BK6.out 5
  have hf0 := blk_frozen BK6.out 0
  have hf1 := blk_frozen BK6.out 1
  have hf2 := blk_frozen BK6.out 2
  have hf3 := blk_frozen BK6.out 3
  have hf4 := blk_frozen BK6.out 4
  have hf5 := blk_frozen BK6.out 5
  go_wp2_with (fail)
  refine (HSC.out _ _ _ HS6.out HL3.out).mono ?_
  rintro e w7 ⟨rfl, hb7⟩
  have BK7 := Lib.hid (blk_below BK6.out hb7)
  have HB7 := Lib.hid (below_step HB6.out hb7)
  clear h50 h51 h52 h53 h54 h55 hf0 hf1 hf2 hf3 hf4 hf5 BK6 HB6 HS6 hb7
  have h60 := (blk_cell BK7.out 0).trans rfl
  have hf0 := blk_frozen BK7.out 0
  go_wp2_with (first | (go_at_call 19; (with_reducible refine (live_num 0 _).mono ?_); rintro e w9 ⟨rfl, ⟨nd9, rfl⟩⟩) | (go_at_call 19; (with_reducible refine (live_num 112 _).mono ?_); rintro e w9 ⟨rfl, ⟨nd9, rfl⟩⟩))
  go_ret
  exact ⟨rfl, by repeat (first | (with_reducible first | exact HB7.out | apply below_alloc | apply pw_below_drewN | apply below_drew1) | exact HB7.out)⟩
end Go.Proofs.YtmimipgmhgalaaaGreatDoor.PAll
end
section
namespace Go.Proofs.YtmimipgmhgalaaaGreatDoor.PAll
open Go.RowKit Go.Proofs.YtmimipgmhgalaaaGreatDoorW.PrintWords
set_option linter.unusedVariables false
set_option linter.unusedSimpArgs false
theorem kept_grown {w wr w1 : World} {P ok : Nat → Prop} {row : Option Nat} (h : Kept w wr P) (hg : wr.grownBy w1 row) (hr : ∀ k, row = some k → ok k) (hok : ∀ k, ok k → k < w.heap.size → P k) : Kept w w1 P :=
  ⟨Nat.le_trans h.1 hg.size, fun i hi hp => (hg.block i (Nat.lt_of_lt_of_le hi h.1) (fun e => hp (hok i (hr i e.symm) hi))).trans (h.2 i hi hp)⟩
structure SpI (i0 : Nat) (P ok : Nat → Prop) (w0 w wr : World) (g n cap : Nat) (ys : List S40) : Prop where
  len : ys.length = n
  lim : ∀ q, i0 ≤ q → (ys.getD q z40).f5.length ≤ 4000000000000
  s : Kd.S k40 40 wr w0.heap.size ok (.slice (some ⟨g, 0, none⟩) n cap) ys
  k : Kept w wr P
  b : Below w0.heap.size w0 wr
structure SpJ (P okj : Nat → Prop) (w0 w wr ws : World) (g n cap j k : Nat) (ys : List S40) (u : Value) (ls : List ByteArray) (c : List Value) : Prop where
  r : Kd.R Kd.string 9 ws w0.heap.size okj u ls
  h : Kd.H k40 40 ws w0.heap.size (fun k => P k ∨ w.heap.size ≤ k) (.slice (some ⟨g, 0, none⟩) n cap) ys (j : Int) okj c
  kp : Kept w ws P
  b : Below w0.heap.size w0 ws
  l : ls.length ≤ 4000000000000 + k
  o : ∀ q, okj q → P q ∨ w.heap.size ≤ q
  f : ∀ q, ws.heap.size ≤ q → okj q
theorem SpJ.grow {P okj : Nat → Prop} {w0 w wr ws w1 : World} {g n cap j k : Nat} {ys : List S40} {u u1 : Value} {ls : List ByteArray} {c : List Value} (h : SpJ P okj w0 w wr ws g n cap j k ys u ls c)
    (ho : Kd.R Kd.string 9 w1 w0.heap.size okj u1 (ls ++ [⟨#[63, 63]⟩])) (hb : Below w0.heap.size w0 w1) (hg : ws.grownBy w1 u.ownBlock) : SpJ P okj w0 w wr w1 g n cap j (k + 1) ys u1 (ls ++ [⟨#[63, 63]⟩]) c :=
  ⟨ho, Kd.H_grown h.h hg (fun q hq => h.r.1 q hq), kept_grown h.kp hg (fun q hq => h.o q (h.r.1 q hq)) (fun q hq hlt => hq.elim id (fun h2 => by omega)), hb, by have := h.l; rw [List.length_append]; simp; omega, h.o, fun q hq => h.f q (Nat.le_trans hg.size hq)⟩
theorem SpJ.cells {P okj : Nat → Prop} {w0 w wr ws : World} {g n cap j k : Nat} {ys : List S40} {u : Value} {ls : List ByteArray} {c : List Value} (h : SpJ P okj w0 w wr ws g n cap j k ys u ls c) (hj : j < n) :
    (∀ q x, c[q]? = some x → ws.cell? ⟨g, j * 6 + q, none⟩ = some x) ∧ ∀ q, ws.frozen? ⟨g, q, none⟩ = false := by
  obtain ⟨rows, _, hraw, _, _, hcc, _⟩ := Kd.H_raw h.h (by omega) (by omega)
  refine ⟨fun q x hx => by have := hcc q x hx; rwa [Int.toNat_natCast] at this, fun q => ?_⟩
  obtain ⟨cells, hc⟩ := Kd.R_typed hraw g (by simp [Value.ownBlock])
  exact blk_frozen hc q
end Go.Proofs.YtmimipgmhgalaaaGreatDoor.PAll
end
section
namespace Go.Proofs.YtmimipgmhgalaaaGreatDoor.PAll
open Go.RowKit Go.Proofs.YtmimipgmhgalaaaGreatDoorW.PrintWords Go.Proofs.YtmimipgmhgalaaaGreatDoorW.PrintLast Go.Proofs.YtmimipgmhgalaaaGreatDoorW.PrintMore
attribute [local go_sem] max2_int min2_int max_two min_two max_three min_three max_four min_four
set_option linter.unusedVariables false
set_option linter.unusedSimpArgs false
def wicketlaw11_theirs.f (a0_0 : ByteArray) (a0_1 : ByteArray) (a0_2 : Int) (a0_3 : Bool) (a0_4 : ByteArray) (l0_5 : List ByteArray) : Option (ByteArray × ByteArray × Int × Bool × ByteArray × List ByteArray) := (some (([] : List ByteArray) : List ByteArray)).bind fun y263 => (if y263.length + l0_5.length < 8796093022208 then (some (a0_0, a0_1, a0_2, a0_3, a0_4, (y263 ++ l0_5))) else (none))
def wicketlaw11_theirs.T1 : Bool × List (List Nat × List Nat) := (true, [([], []), ([0], [0]), ([], []), ([2], [2]), ([], []), ([4], [4]), ([], []), ([6], [6]), ([], []), ([8], [8]), ([], []), ([], []), ([11], [11]), ([10, 12], [10, 12]), ([1, 3, 5, 7, 9, 13], [1, 3, 5, 7, 9, 13]), ([14, 13, 0, 1, 2, 3, 4, 5, 6, 7, 8, 9, 10, 11, 12, 13, 14], [14])])
def wicketlaw11_theirs.B1 : List Nat := [0, 1, 0, 4, 0, 16, 0, 64, 0, 256, 0, 0, 2048, 7168, 16383, 32767]
theorem wicketlaw11_theirs.tab1 : rtab .any (opsOf Tryz.f24 1) = wicketlaw11_theirs.T1 := by kernel_rfl
theorem wicketlaw11_theirs.bits1 : waitsOk wicketlaw11_theirs.T1.2 wicketlaw11_theirs.B1 = true := by kernel_rfl
set_option maxHeartbeats 8000000 in
set_option maxRecDepth 100000 in
theorem wicketlaw11_theirs.calls (a0_0 : ByteArray) (a0_1 : ByteArray) (a0_2 : Int) (a0_3 : Bool) (a0_4 : ByteArray) (A0_5 : Option Addr) (c0_5 : Nat) (l0_5 : List ByteArray) (r1 : ByteArray) (r2 : ByteArray) (r3 : Int) (r4 : Bool) (r5 : ByteArray) (r6 : List ByteArray) (w : World) (hr0_5 : Kd.C Kd.string w A0_5 l0_5.length l0_5) (hc0_5 : l0_5.length ≤ c0_5) (h : wicketlaw11_theirs.f a0_0 a0_1 a0_2 a0_3 a0_4 l0_5 = some (r1, r2, r3, r4, r5, r6)) :
 Calls Tryz.prog 24 #[.agg #[.string a0_0, .string a0_1, .int .i64 a0_2, .bool a0_3, .string a0_4, .slice A0_5 l0_5.length c0_5]] w fun e w' => ∃ v5_ : Value, e = .returned (.agg #[.string r1, .string r2, .int .i64 r3, .bool r4, .string r5, v5_]) ∧ Kd.R Kd.string 9 w' w.heap.size (fun _ => True) v5_ r6 ∧ Below w.heap.size w w' := by
 have hu43 := Tryz.underlying43
 have hu40 := Tryz.underlying40
 have HR0_5 := Aside0.mk hr0_5
 have HC0_5 := Aside0.mk hc0_5
 clear hr0_5 hc0_5
 have HB := Aside0.mk (Below.refl w.heap.size w)
 have H : ((some (([] : List ByteArray) : List ByteArray)).bind fun y263 => (if y263.length + l0_5.length < 8796093022208 then (some (a0_0, a0_1, a0_2, a0_3, a0_4, (y263 ++ l0_5))) else (none))) = some (r1, r2, r3, r4, r5, r6) := h
 clear h
 obtain ⟨y263, hy263⟩ : ∃ y_ : List ByteArray, y_ = (([] : List ByteArray)) := ⟨_, rfl⟩
 replace H : (if y263.length + l0_5.length < 8796093022208 then (some (a0_0, a0_1, a0_2, a0_3, a0_4, (y263 ++ l0_5))) else (none)) = some (r1, r2, r3, r4, r5, r6) := by (have H2_ := (Option.bind_some _ _).symm.trans H; rw [hy263]; with_reducible exact H2_)
 have Ny263 := Aside0.mk hy263
 clear hy263
 by_cases c2 : y263.length + l0_5.length < 8796093022208
 · rw [if_pos c2] at H
   have LMc2 := Aside0.mk c2
   clear c2
   obtain ⟨y266, hy266⟩ : ∃ y_ : List ByteArray, y_ = (y263 ++ l0_5) := ⟨_, rfl⟩
   replace H : (some (a0_0, a0_1, a0_2, a0_3, a0_4, y266)) = some (r1, r2, r3, r4, r5, r6) := by (rw [hy266]; with_reducible exact H)
   have Ny266 := Aside0.mk hy266
   clear hy266
   simp only [Option.some.injEq, Prod.mk.injEq] at H
   obtain ⟨rfl, rfl, rfl, rfl, rfl, rfl⟩ := H
   go_enter Tryz.func24, Tryz.ntmps24
   try go_wp2_with (first | ((with_reducible refine gate_dst (N := 1) rfl ?_); refine box_event (by rfl) (N := 1) (by rfl) (cs := #[.string a0_0, .string a0_1, .int .i64 a0_2, .bool a0_3, .string a0_4, .slice A0_5 l0_5.length c0_5]) (t := 43) (by go_simp) ?_; intro gb261 hg w3 hbox hb; have BK261 := Aside0.mk hbox; have GW261 := Aside0.mk ((by rw [hg]; exact (below_size HB.out) : w.heap.size ≤ gb261)); have GE261 := Aside0.mk ((by rw [hg]; exact (below_size HB.out) : w.heap.size ≤ gb261)); replace HB := Aside0.mk (below_step HB.out hb); clear hb hbox hg) | ((with_reducible refine gate_dst (N := 2) rfl ?_); refine box_event (by rfl) (N := 2) (by rfl) (cs := #[.string (⟨#[]⟩ : ByteArray), .string (⟨#[]⟩ : ByteArray), .int .i64 0, .bool false, .string (⟨#[]⟩ : ByteArray), .slice none 0 0]) (t := 40) (by go_simp) ?_; intro gb262 hg w4 hbox hb; have BK262 := Aside0.mk hbox; have GW262 := Aside0.mk ((by rw [hg]; exact (below_size HB.out) : w.heap.size ≤ gb262)); have GE262 := Aside0.mk ((by rw [hg]; exact (below_size HB.out) : w.heap.size ≤ gb262)); replace HB := Aside0.mk (below_step HB.out hb); have NB261_262 := Aside0.mk ((by rw [hg]; exact Nat.ne_of_lt (blk_lt BK261.out) : gb261 ≠ gb262)); have NB262_261 := Aside0.mk ((by rw [hg]; exact Nat.ne_of_gt (blk_lt BK261.out) : gb262 ≠ gb261)); replace BK261 := Aside0.mk (blk_below BK261.out hb); clear hb hbox hg))
   have n0_ := Aside0.mk (blk_drew BK261.out)
   have n1_ := Aside0.mk (blk_drew BK262.out)
   have n2_ := Aside0.mk (below_drew1 HB.out)
   clear BK261 BK262 HB
   have BK261 := n0_
   have BK262 := n1_
   have HB := n2_
   clear n0_ n1_ n2_
   refine start_ (n := 16) (S := fun w' => w'.cell? ⟨gb261, 0, none⟩ = some (.string a0_0) ∧ w'.cell? ⟨gb261, 1, none⟩ = some (.string a0_1) ∧ w'.cell? ⟨gb261, 2, none⟩ = some (.int .i64 a0_2) ∧ w'.cell? ⟨gb261, 3, none⟩ = some (.bool a0_3) ∧ w'.cell? ⟨gb261, 4, none⟩ = some (.string a0_4) ∧ w'.cell? ⟨gb261, 5, none⟩ = some (.slice A0_5 l0_5.length c0_5)) (ds := []) #[false, false, false, false, false, false, false, false, false, false, false, false, false, false, false, false] (by kernel_rfl) rfl rfl ⟨(blk_cell BK261.out 0).trans rfl, (blk_cell BK261.out 1).trans rfl, (blk_cell BK261.out 2).trans rfl, (blk_cell BK261.out 3).trans rfl, (blk_cell BK261.out 4).trans rfl, (blk_cell BK261.out 5).trans rfl⟩ (fun hHeld => ?_); refine with_tabW wicketlaw11_theirs.tab1 wicketlaw11_theirs.bits1 (fun HT_ HW_ => ?_)
   generalize w4.drew = w5 at BK261 BK262 HB hHeld ⊢
   refine pure_ (i := 0) (N := some 3) (v := ?_) (a' := ?_) #[true, false, false, false, false, false, false, false, false, false, false, false, false, false, false, false] rfl rfl (any_of HT_.out (by kernel_rfl)) (fun _ _ _ h => h) (Or.inl ⟨by rfl, ?_⟩) ?_ ?_
   rotate_left
   · intro w'
     go_simp
     with_reducible rfl
   rotate_left
   · simp only [Act.put, List.setIfInBounds_toArray, List.set_cons_zero, List.set_cons_succ, i64_w, i32_w]
     rfl
   refine pure_ (i := 2) (N := some 5) (v := ?_) (a' := ?_) #[true, false, true, false, false, false, false, false, false, false, false, false, false, false, false, false] rfl rfl (any_of HT_.out (by kernel_rfl)) (fun _ _ _ h => h) (Or.inl ⟨by rfl, ?_⟩) ?_ ?_
   rotate_left
   · intro w'
     go_simp
     with_reducible rfl
   rotate_left
   · simp only [Act.put, List.setIfInBounds_toArray, List.set_cons_zero, List.set_cons_succ, i64_w, i32_w]
     rfl
   refine pure_ (i := 4) (N := some 7) (v := ?_) (a' := ?_) #[true, false, true, false, true, false, false, false, false, false, false, false, false, false, false, false] rfl rfl (any_of HT_.out (by kernel_rfl)) (fun _ _ _ h => h) (Or.inl ⟨by rfl, ?_⟩) ?_ ?_
   rotate_left
   · intro w'
     go_simp
     with_reducible rfl
   rotate_left
   · simp only [Act.put, List.setIfInBounds_toArray, List.set_cons_zero, List.set_cons_succ, i64_w, i32_w]
     rfl
   refine pure_ (i := 6) (N := some 9) (v := ?_) (a' := ?_) #[true, false, true, false, true, false, true, false, false, false, false, false, false, false, false, false] rfl rfl (any_of HT_.out (by kernel_rfl)) (fun _ _ _ h => h) (Or.inl ⟨by rfl, ?_⟩) ?_ ?_
   rotate_left
   · intro w'
     go_simp
     with_reducible rfl
   rotate_left
   · simp only [Act.put, List.setIfInBounds_toArray, List.set_cons_zero, List.set_cons_succ, i64_w, i32_w]
     rfl
   refine pure_ (i := 8) (N := some 11) (v := ?_) (a' := ?_) #[true, false, true, false, true, false, true, false, true, false, false, false, false, false, false, false] rfl rfl (any_of HT_.out (by kernel_rfl)) (fun _ _ _ h => h) (Or.inl ⟨by rfl, ?_⟩) ?_ ?_
   rotate_left
   · intro w'
     go_simp
     with_reducible rfl
   rotate_left
   · simp only [Act.put, List.setIfInBounds_toArray, List.set_cons_zero, List.set_cons_succ, i64_w, i32_w]
     rfl
   refine pure_ (i := 11) (N := some 14) (v := ?_) (a' := ?_) #[true, false, true, false, true, false, true, false, true, false, false, true, false, false, false, false] rfl rfl (any_of HT_.out (by kernel_rfl)) (fun _ _ _ h => h) (Or.inl ⟨by rfl, ?_⟩) ?_ ?_
   rotate_left
   · intro w'
     go_simp
     with_reducible rfl
   rotate_left
   · simp only [Act.put, List.setIfInBounds_toArray, List.set_cons_zero, List.set_cons_succ, i64_w, i32_w]
     rfl
   refine take_ (i := 1) (N := some 4) (v := ?_) (a' := ?_) #[true, true, true, false, true, false, true, false, true, false, false, true, false, false, false, false] rfl rfl (take_ofW HT_.out HW_.out (by kernel_rfl)) (fun _ _ _ h => h) (Or.inl ⟨by rfl, ?_⟩) hHeld ?_ ?_
   rotate_left
   · rintro w' ⟨s0, s1, s2, s3, s4, s5⟩
     go_simp
     with_reducible rfl
   rotate_left
   · simp only [Act.put, List.setIfInBounds_toArray, List.set_cons_zero, List.set_cons_succ, i64_w, i32_w]
     rfl
   refine take_ (i := 3) (N := some 6) (v := ?_) (a' := ?_) #[true, true, true, true, true, false, true, false, true, false, false, true, false, false, false, false] rfl rfl (take_ofW HT_.out HW_.out (by kernel_rfl)) (fun _ _ _ h => h) (Or.inl ⟨by rfl, ?_⟩) hHeld ?_ ?_
   rotate_left
   · rintro w' ⟨s0, s1, s2, s3, s4, s5⟩
     go_simp
     with_reducible rfl
   rotate_left
   · simp only [Act.put, List.setIfInBounds_toArray, List.set_cons_zero, List.set_cons_succ, i64_w, i32_w]
     rfl
   refine take_ (i := 5) (N := some 8) (v := ?_) (a' := ?_) #[true, true, true, true, true, true, true, false, true, false, false, true, false, false, false, false] rfl rfl (take_ofW HT_.out HW_.out (by kernel_rfl)) (fun _ _ _ h => h) (Or.inl ⟨by rfl, ?_⟩) hHeld ?_ ?_
   rotate_left
   · rintro w' ⟨s0, s1, s2, s3, s4, s5⟩
     go_simp
     with_reducible rfl
   rotate_left
   · simp only [Act.put, List.setIfInBounds_toArray, List.set_cons_zero, List.set_cons_succ, i64_w, i32_w]
     rfl
   refine take_ (i := 7) (N := some 10) (v := ?_) (a' := ?_) #[true, true, true, true, true, true, true, true, true, false, false, true, false, false, false, false] rfl rfl (take_ofW HT_.out HW_.out (by kernel_rfl)) (fun _ _ _ h => h) (Or.inl ⟨by rfl, ?_⟩) hHeld ?_ ?_
   rotate_left
   · rintro w' ⟨s0, s1, s2, s3, s4, s5⟩
     go_simp
     with_reducible rfl
   rotate_left
   · simp only [Act.put, List.setIfInBounds_toArray, List.set_cons_zero, List.set_cons_succ, i64_w, i32_w]
     rfl
   refine take_ (i := 9) (N := some 12) (v := ?_) (a' := ?_) #[true, true, true, true, true, true, true, true, true, true, false, true, false, false, false, false] rfl rfl (take_ofW HT_.out HW_.out (by kernel_rfl)) (fun _ _ _ h => h) (Or.inl ⟨by rfl, ?_⟩) hHeld ?_ ?_
   rotate_left
   · rintro w' ⟨s0, s1, s2, s3, s4, s5⟩
     go_simp
     with_reducible rfl
   rotate_left
   · simp only [Act.put, List.setIfInBounds_toArray, List.set_cons_zero, List.set_cons_succ, i64_w, i32_w]
     rfl
   refine take_ (i := 12) (N := some 15) (v := ?_) (a' := ?_) #[true, true, true, true, true, true, true, true, true, true, false, true, true, false, false, false] rfl rfl (take_ofW HT_.out HW_.out (by kernel_rfl)) (fun _ _ _ h => h) (Or.inl ⟨by rfl, ?_⟩) hHeld ?_ ?_
   rotate_left
   · rintro w' ⟨s0, s1, s2, s3, s4, s5⟩
     go_simp
     with_reducible rfl
   rotate_left
   · simp only [Act.put, List.setIfInBounds_toArray, List.set_cons_zero, List.set_cons_succ, i64_w, i32_w]
     rfl
   refine one_ (i := 10) (N := some 13) #[true, true, true, true, true, true, true, true, true, true, true, true, true, false, false, false] rfl rfl (one_of HT_.out (by kernel_rfl)) (by decide) (fun K hK => ?_)
   refine Kd.R_lit_step Kd.string _ 9 ?hg (N := 13) ?hd (xs := ([] : List ByteArray)) (inner := []) (ok := fun _ => True) (okp := fun _ => True) ?hr ?hp (fun _ hk => hk) trivial (Below.refl _ _) (Nat.le_refl _) (by simp) ?_; (case hd => rfl); (case hg => rfl); (case hr => (go_simp; done)); (case hp => exact (Reps.none _ _))
   intro v264 w6 ho7 hb hg_ hnew_
   clear hg_ hnew_
   (rw [← Ny263.out] at ho7)
   have n0_ := Aside0.mk (Kd.R_lower ho7 (below_size HB.out))
   have n1_ := Aside0.mk (blk_below BK261.out hb)
   have n2_ := Aside0.mk (blk_below BK262.out hb)
   have n3_ := Aside0.mk (below_step HB.out hb)
   clear BK261 BK262 HB
   have HO265 := n0_
   have BK261 := n1_
   have BK262 := n2_
   have HB := n3_
   clear n0_ n1_ n2_ n3_ hb ho7
   refine hK.out _ _ ⟨(blk_cell BK261.out 0).trans rfl, (blk_cell BK261.out 1).trans rfl, (blk_cell BK261.out 2).trans rfl, (blk_cell BK261.out 3).trans rfl, (blk_cell BK261.out 4).trans rfl, (blk_cell BK261.out 5).trans rfl⟩ (fun hHeld => ?_)
   clear hK K
   refine norm_ (a' := ?_) ?_ ?_
   rotate_left
   · show Act.put _ (some 13) _ = _
     simp only [Act.put, List.setIfInBounds_toArray, List.set_cons_zero, List.set_cons_succ, i64_w, i32_w]
     rfl
   refine one_ (i := 13) (N := some 16) #[true, true, true, true, true, true, true, true, true, true, true, true, true, true, false, false] rfl rfl (one_of HT_.out (by kernel_rfl)) (by decide) (fun K hK => ?_)
   refine Kd.R_append_rows_step Kd.string (w0 := w) w.heap.size rfl (.tmp 13) (.tmp 15) 38 9 (.string ⟨#[]⟩) 16 rfl Tryz.underlying38 info9 rfl (by decide) (by omega) v264 y263 l0_5 _ _ _ (fun _ => True) (fun _ => False) rfl rfl ?aO ?aR (fun _ _ h => h) (fun _ h => h.elim) ?aF ?aB ?aS ?aL ?_
   (case aR => repeat (exact (Kd.C_below HR0_5.out HB.out)))
   (case aB => exact HB.out)
   (case aF => exact (fun _ _ => trivial))
   (case aO => exact HO265.out)
   (case aS => exact (below_size HB.out))
   (case aL => have := LMc2.out; omega)
   intro v267 w8 ho hb hg hat
   rw [← Ny266.out] at ho
   have n0_ := Aside0.mk (blk_grown BK261.out hg (Kd.R_ne HO265.out BK261.out (by decide)))
   have n1_ := Aside0.mk (blk_grown BK262.out hg (Kd.R_ne HO265.out BK262.out (by decide)))
   have n2_ := Aside0.mk hb
   have n3_ := Aside0.mk ho
   clear BK261 BK262 HB HO265
   have BK261 := n0_
   have BK262 := n1_
   have HB := n2_
   have HO268 := n3_
   clear n0_ n1_ n2_ n3_ ho hb hg hat
   obtain ⟨Ao9, co9, eo9⟩ := Kd.R_slice HO268.out
   (subst eo9)
   refine hK.out _ _ ⟨(blk_cell BK261.out 0).trans rfl, (blk_cell BK261.out 1).trans rfl, (blk_cell BK261.out 2).trans rfl, (blk_cell BK261.out 3).trans rfl, (blk_cell BK261.out 4).trans rfl, (blk_cell BK261.out 5).trans rfl⟩ (fun hHeld => ?_)
   clear hK K
   refine norm_ (a' := ?_) ?_ ?_
   rotate_left
   · show Act.put _ (some 16) _ = _
     simp only [Act.put, List.setIfInBounds_toArray, List.set_cons_zero, List.set_cons_succ, i64_w, i32_w]
     rfl
   refine pure_ (i := 14) (N := some 17) (v := ?_) (a' := ?_) #[true, true, true, true, true, true, true, true, true, true, true, true, true, true, true, false] rfl rfl (any_of HT_.out (by kernel_rfl)) (fun _ _ _ h => h) (Or.inl ⟨by rfl, ?_⟩) ?_ ?_
   rotate_left
   · intro w'
     go_simp
     with_reducible rfl
   rotate_left
   · simp only [Act.put, List.setIfInBounds_toArray, List.set_cons_zero, List.set_cons_succ, i64_w, i32_w]
     rfl
   refine one_ (i := 15) (N := none) #[true, true, true, true, true, true, true, true, true, true, true, true, true, true, true, true] rfl rfl (one_of HT_.out (by kernel_rfl)) (by decide) (fun K hK => ?_)
   have hs10 : w8.cell? ⟨gb262, 0, none⟩ = some (.string (⟨#[]⟩ : ByteArray)) := (blk_cell BK262.out 0).trans rfl
   have hfs10 := blk_frozen BK262.out 0
   have hns10_0 := NB261_262.out
   have hms10_0 := NB262_261.out
   have hs11 : w8.cell? ⟨gb262, 1, none⟩ = some (.string (⟨#[]⟩ : ByteArray)) := (blk_cell BK262.out 1).trans rfl
   have hfs11 := blk_frozen BK262.out 1
   have hns11_0 := NB261_262.out
   have hms11_0 := NB262_261.out
   have hs12 : w8.cell? ⟨gb262, 2, none⟩ = some (.int .i64 0) := (blk_cell BK262.out 2).trans rfl
   have hfs12 := blk_frozen BK262.out 2
   have hns12_0 := NB261_262.out
   have hms12_0 := NB262_261.out
   have hs13 : w8.cell? ⟨gb262, 3, none⟩ = some (.bool false) := (blk_cell BK262.out 3).trans rfl
   have hfs13 := blk_frozen BK262.out 3
   have hns13_0 := NB261_262.out
   have hms13_0 := NB262_261.out
   have hs14 : w8.cell? ⟨gb262, 4, none⟩ = some (.string (⟨#[]⟩ : ByteArray)) := (blk_cell BK262.out 4).trans rfl
   have hfs14 := blk_frozen BK262.out 4
   have hns14_0 := NB261_262.out
   have hms14_0 := NB262_261.out
   have hs15 : w8.cell? ⟨gb262, 5, none⟩ = some (.slice none 0 0) := (blk_cell BK262.out 5).trans rfl
   have hfs15 := blk_frozen BK262.out 5
   have hns15_0 := NB261_262.out
   have hms15_0 := NB262_261.out
   refine skip_ (w1 := ?_) rfl rfl ?_ ?_
   rotate_left
   · go_simp
     rfl
   refine hK.out _ _ ⟨((cell_far (p := ⟨gb262, _, none⟩) NB261_262.out _).trans (((cell_far (p := ⟨gb262, _, none⟩) NB261_262.out _).trans (((cell_far (p := ⟨gb262, _, none⟩) NB261_262.out _).trans (((cell_far (p := ⟨gb262, _, none⟩) NB261_262.out _).trans (((cell_far (p := ⟨gb262, _, none⟩) NB261_262.out _).trans (((cell_far (p := ⟨gb262, _, none⟩) NB261_262.out _).trans (hHeld.1)))))))))))), ((cell_far (p := ⟨gb262, _, none⟩) NB261_262.out _).trans (((cell_far (p := ⟨gb262, _, none⟩) NB261_262.out _).trans (((cell_far (p := ⟨gb262, _, none⟩) NB261_262.out _).trans (((cell_far (p := ⟨gb262, _, none⟩) NB261_262.out _).trans (((cell_far (p := ⟨gb262, _, none⟩) NB261_262.out _).trans (((cell_far (p := ⟨gb262, _, none⟩) NB261_262.out _).trans (hHeld.2.1)))))))))))), ((cell_far (p := ⟨gb262, _, none⟩) NB261_262.out _).trans (((cell_far (p := ⟨gb262, _, none⟩) NB261_262.out _).trans (((cell_far (p := ⟨gb262, _, none⟩) NB261_262.out _).trans (((cell_far (p := ⟨gb262, _, none⟩) NB261_262.out _).trans (((cell_far (p := ⟨gb262, _, none⟩) NB261_262.out _).trans (((cell_far (p := ⟨gb262, _, none⟩) NB261_262.out _).trans (hHeld.2.2.1)))))))))))), ((cell_far (p := ⟨gb262, _, none⟩) NB261_262.out _).trans (((cell_far (p := ⟨gb262, _, none⟩) NB261_262.out _).trans (((cell_far (p := ⟨gb262, _, none⟩) NB261_262.out _).trans (((cell_far (p := ⟨gb262, _, none⟩) NB261_262.out _).trans (((cell_far (p := ⟨gb262, _, none⟩) NB261_262.out _).trans (((cell_far (p := ⟨gb262, _, none⟩) NB261_262.out _).trans (hHeld.2.2.2.1)))))))))))), ((cell_far (p := ⟨gb262, _, none⟩) NB261_262.out _).trans (((cell_far (p := ⟨gb262, _, none⟩) NB261_262.out _).trans (((cell_far (p := ⟨gb262, _, none⟩) NB261_262.out _).trans (((cell_far (p := ⟨gb262, _, none⟩) NB261_262.out _).trans (((cell_far (p := ⟨gb262, _, none⟩) NB261_262.out _).trans (((cell_far (p := ⟨gb262, _, none⟩) NB261_262.out _).trans (hHeld.2.2.2.2.1)))))))))))), ((cell_far (p := ⟨gb262, _, none⟩) NB261_262.out _).trans (((cell_far (p := ⟨gb262, _, none⟩) NB261_262.out _).trans (((cell_far (p := ⟨gb262, _, none⟩) NB261_262.out _).trans (((cell_far (p := ⟨gb262, _, none⟩) NB261_262.out _).trans (((cell_far (p := ⟨gb262, _, none⟩) NB261_262.out _).trans (((cell_far (p := ⟨gb262, _, none⟩) NB261_262.out _).trans (hHeld.2.2.2.2.2))))))))))))⟩ (fun hHeld => ?_)
   clear hK K
   refine done_ (done_of HT_.out (by kernel_rfl)) ?_
   try go_wp2
   refine bodyPost_ret (results_cell_row rfl _ _ gb262 40 #[.string a0_0, .string a0_1, .int .i64 a0_2, .bool a0_3, .string a0_4, .slice Ao9 y266.length co9] (0, 0) _ rfl (put6_ BK262.out _ _ _ _ _ _) Tryz.underlying40 rfl (by kernel_rfl)) rfl ?_
   exact ⟨_, rfl, by (with_reducible repeat (first | apply Kd.R_alloc  | apply Kd.R_drewN  | apply Kd.R_drew)); exact Kd.R_mono (R_far6 (Kd.R_types HO268.out BK262.out (by decide)) (fun _ hk => hk.2)) (fun _ hk => trivial), by (repeat (with_reducible first | exact HB.out | refine below_set ?_ GE262.out))⟩
 · rw [if_neg c2] at H
   exact absurd H (by simp)
def wicketlaw11_ours.f (a0_0 : ByteArray) (a0_1 : ByteArray) (a0_2 : Int) (a0_3 : Bool) (a0_4 : ByteArray) (l0_5 : List ByteArray) : Option (ByteArray × ByteArray × Int × Bool × ByteArray × List ByteArray) := (some (([] : List ByteArray) : List ByteArray)).bind fun y271 => (if y271.length + l0_5.length < 8796093022208 then (some (a0_0, a0_1, a0_2, a0_3, a0_4, (y271 ++ l0_5))) else (none))
def wicketlaw11_ours.T1 : Bool × List (List Nat × List Nat) := (true, [([], []), ([0], [0]), ([], []), ([2], [2]), ([], []), ([4], [4]), ([], []), ([6], [6]), ([], []), ([8], [8]), ([], []), ([], []), ([11], [11]), ([10, 12], [10, 12]), ([1, 3, 5, 7, 9, 13], [1, 3, 5, 7, 9, 13]), ([14, 13, 0, 1, 2, 3, 4, 5, 6, 7, 8, 9, 10, 11, 12, 13, 14], [14])])
def wicketlaw11_ours.B1 : List Nat := [0, 1, 0, 4, 0, 16, 0, 64, 0, 256, 0, 0, 2048, 7168, 16383, 32767]
theorem wicketlaw11_ours.tab1 : rtab .any (opsOf Tryz.f25 1) = wicketlaw11_ours.T1 := by kernel_rfl
theorem wicketlaw11_ours.bits1 : waitsOk wicketlaw11_ours.T1.2 wicketlaw11_ours.B1 = true := by kernel_rfl
set_option maxHeartbeats 8000000 in
set_option maxRecDepth 100000 in
theorem wicketlaw11_ours.calls (a0_0 : ByteArray) (a0_1 : ByteArray) (a0_2 : Int) (a0_3 : Bool) (a0_4 : ByteArray) (A0_5 : Option Addr) (c0_5 : Nat) (l0_5 : List ByteArray) (r1 : ByteArray) (r2 : ByteArray) (r3 : Int) (r4 : Bool) (r5 : ByteArray) (r6 : List ByteArray) (w : World) (hr0_5 : Kd.C Kd.string w A0_5 l0_5.length l0_5) (hc0_5 : l0_5.length ≤ c0_5) (h : wicketlaw11_ours.f a0_0 a0_1 a0_2 a0_3 a0_4 l0_5 = some (r1, r2, r3, r4, r5, r6)) :
 Calls Tryz.prog 25 #[.agg #[.string a0_0, .string a0_1, .int .i64 a0_2, .bool a0_3, .string a0_4, .slice A0_5 l0_5.length c0_5]] w fun e w' => ∃ v5_ : Value, e = .returned (.agg #[.string r1, .string r2, .int .i64 r3, .bool r4, .string r5, v5_]) ∧ Kd.R Kd.string 9 w' w.heap.size (fun _ => True) v5_ r6 ∧ Below w.heap.size w w' := by
 have hu40 := Tryz.underlying40
 have hu43 := Tryz.underlying43
 have HR0_5 := Aside0.mk hr0_5
 have HC0_5 := Aside0.mk hc0_5
 clear hr0_5 hc0_5
 have HB := Aside0.mk (Below.refl w.heap.size w)
 have H : ((some (([] : List ByteArray) : List ByteArray)).bind fun y271 => (if y271.length + l0_5.length < 8796093022208 then (some (a0_0, a0_1, a0_2, a0_3, a0_4, (y271 ++ l0_5))) else (none))) = some (r1, r2, r3, r4, r5, r6) := h
 clear h
 obtain ⟨y271, hy271⟩ : ∃ y_ : List ByteArray, y_ = (([] : List ByteArray)) := ⟨_, rfl⟩
 replace H : (if y271.length + l0_5.length < 8796093022208 then (some (a0_0, a0_1, a0_2, a0_3, a0_4, (y271 ++ l0_5))) else (none)) = some (r1, r2, r3, r4, r5, r6) := by (have H2_ := (Option.bind_some _ _).symm.trans H; rw [hy271]; with_reducible exact H2_)
 have Ny271 := Aside0.mk hy271
 clear hy271
 by_cases c2 : y271.length + l0_5.length < 8796093022208
 · rw [if_pos c2] at H
   have LMc2 := Aside0.mk c2
   clear c2
   obtain ⟨y274, hy274⟩ : ∃ y_ : List ByteArray, y_ = (y271 ++ l0_5) := ⟨_, rfl⟩
   replace H : (some (a0_0, a0_1, a0_2, a0_3, a0_4, y274)) = some (r1, r2, r3, r4, r5, r6) := by (rw [hy274]; with_reducible exact H)
   have Ny274 := Aside0.mk hy274
   clear hy274
   simp only [Option.some.injEq, Prod.mk.injEq] at H
   obtain ⟨rfl, rfl, rfl, rfl, rfl, rfl⟩ := H
   go_enter Tryz.func25, Tryz.ntmps25
   try go_wp2_with (first | ((with_reducible refine gate_dst (N := 1) rfl ?_); refine box_event (by rfl) (N := 1) (by rfl) (cs := #[.string a0_0, .string a0_1, .int .i64 a0_2, .bool a0_3, .string a0_4, .slice A0_5 l0_5.length c0_5]) (t := 40) (by go_simp) ?_; intro gb269 hg w3 hbox hb; have BK269 := Aside0.mk hbox; have GW269 := Aside0.mk ((by rw [hg]; exact (below_size HB.out) : w.heap.size ≤ gb269)); have GE269 := Aside0.mk ((by rw [hg]; exact (below_size HB.out) : w.heap.size ≤ gb269)); replace HB := Aside0.mk (below_step HB.out hb); clear hb hbox hg) | ((with_reducible refine gate_dst (N := 2) rfl ?_); refine box_event (by rfl) (N := 2) (by rfl) (cs := #[.string (⟨#[]⟩ : ByteArray), .string (⟨#[]⟩ : ByteArray), .int .i64 0, .bool false, .string (⟨#[]⟩ : ByteArray), .slice none 0 0]) (t := 43) (by go_simp) ?_; intro gb270 hg w4 hbox hb; have BK270 := Aside0.mk hbox; have GW270 := Aside0.mk ((by rw [hg]; exact (below_size HB.out) : w.heap.size ≤ gb270)); have GE270 := Aside0.mk ((by rw [hg]; exact (below_size HB.out) : w.heap.size ≤ gb270)); replace HB := Aside0.mk (below_step HB.out hb); have NB269_270 := Aside0.mk ((by rw [hg]; exact Nat.ne_of_lt (blk_lt BK269.out) : gb269 ≠ gb270)); have NB270_269 := Aside0.mk ((by rw [hg]; exact Nat.ne_of_gt (blk_lt BK269.out) : gb270 ≠ gb269)); replace BK269 := Aside0.mk (blk_below BK269.out hb); clear hb hbox hg))
   have n0_ := Aside0.mk (blk_drew BK269.out)
   have n1_ := Aside0.mk (blk_drew BK270.out)
   have n2_ := Aside0.mk (below_drew1 HB.out)
   clear BK269 BK270 HB
   have BK269 := n0_
   have BK270 := n1_
   have HB := n2_
   clear n0_ n1_ n2_
   refine start_ (n := 16) (S := fun w' => w'.cell? ⟨gb269, 0, none⟩ = some (.string a0_0) ∧ w'.cell? ⟨gb269, 1, none⟩ = some (.string a0_1) ∧ w'.cell? ⟨gb269, 2, none⟩ = some (.int .i64 a0_2) ∧ w'.cell? ⟨gb269, 3, none⟩ = some (.bool a0_3) ∧ w'.cell? ⟨gb269, 4, none⟩ = some (.string a0_4) ∧ w'.cell? ⟨gb269, 5, none⟩ = some (.slice A0_5 l0_5.length c0_5)) (ds := []) #[false, false, false, false, false, false, false, false, false, false, false, false, false, false, false, false] (by kernel_rfl) rfl rfl ⟨(blk_cell BK269.out 0).trans rfl, (blk_cell BK269.out 1).trans rfl, (blk_cell BK269.out 2).trans rfl, (blk_cell BK269.out 3).trans rfl, (blk_cell BK269.out 4).trans rfl, (blk_cell BK269.out 5).trans rfl⟩ (fun hHeld => ?_); refine with_tabW wicketlaw11_ours.tab1 wicketlaw11_ours.bits1 (fun HT_ HW_ => ?_)
   generalize w4.drew = w5 at BK269 BK270 HB hHeld ⊢
   refine pure_ (i := 0) (N := some 3) (v := ?_) (a' := ?_) #[true, false, false, false, false, false, false, false, false, false, false, false, false, false, false, false] rfl rfl (any_of HT_.out (by kernel_rfl)) (fun _ _ _ h => h) (Or.inl ⟨by rfl, ?_⟩) ?_ ?_
   rotate_left
   · intro w'
     go_simp
     with_reducible rfl
   rotate_left
   · simp only [Act.put, List.setIfInBounds_toArray, List.set_cons_zero, List.set_cons_succ, i64_w, i32_w]
     rfl
   refine pure_ (i := 2) (N := some 5) (v := ?_) (a' := ?_) #[true, false, true, false, false, false, false, false, false, false, false, false, false, false, false, false] rfl rfl (any_of HT_.out (by kernel_rfl)) (fun _ _ _ h => h) (Or.inl ⟨by rfl, ?_⟩) ?_ ?_
   rotate_left
   · intro w'
     go_simp
     with_reducible rfl
   rotate_left
   · simp only [Act.put, List.setIfInBounds_toArray, List.set_cons_zero, List.set_cons_succ, i64_w, i32_w]
     rfl
   refine pure_ (i := 4) (N := some 7) (v := ?_) (a' := ?_) #[true, false, true, false, true, false, false, false, false, false, false, false, false, false, false, false] rfl rfl (any_of HT_.out (by kernel_rfl)) (fun _ _ _ h => h) (Or.inl ⟨by rfl, ?_⟩) ?_ ?_
   rotate_left
   · intro w'
     go_simp
     with_reducible rfl
   rotate_left
   · simp only [Act.put, List.setIfInBounds_toArray, List.set_cons_zero, List.set_cons_succ, i64_w, i32_w]
     rfl
   refine pure_ (i := 6) (N := some 9) (v := ?_) (a' := ?_) #[true, false, true, false, true, false, true, false, false, false, false, false, false, false, false, false] rfl rfl (any_of HT_.out (by kernel_rfl)) (fun _ _ _ h => h) (Or.inl ⟨by rfl, ?_⟩) ?_ ?_
   rotate_left
   · intro w'
     go_simp
     with_reducible rfl
   rotate_left
   · simp only [Act.put, List.setIfInBounds_toArray, List.set_cons_zero, List.set_cons_succ, i64_w, i32_w]
     rfl
   refine pure_ (i := 8) (N := some 11) (v := ?_) (a' := ?_) #[true, false, true, false, true, false, true, false, true, false, false, false, false, false, false, false] rfl rfl (any_of HT_.out (by kernel_rfl)) (fun _ _ _ h => h) (Or.inl ⟨by rfl, ?_⟩) ?_ ?_
   rotate_left
   · intro w'
     go_simp
     with_reducible rfl
   rotate_left
   · simp only [Act.put, List.setIfInBounds_toArray, List.set_cons_zero, List.set_cons_succ, i64_w, i32_w]
     rfl
   refine pure_ (i := 11) (N := some 14) (v := ?_) (a' := ?_) #[true, false, true, false, true, false, true, false, true, false, false, true, false, false, false, false] rfl rfl (any_of HT_.out (by kernel_rfl)) (fun _ _ _ h => h) (Or.inl ⟨by rfl, ?_⟩) ?_ ?_
   rotate_left
   · intro w'
     go_simp
     with_reducible rfl
   rotate_left
   · simp only [Act.put, List.setIfInBounds_toArray, List.set_cons_zero, List.set_cons_succ, i64_w, i32_w]
     rfl
   refine take_ (i := 1) (N := some 4) (v := ?_) (a' := ?_) #[true, true, true, false, true, false, true, false, true, false, false, true, false, false, false, false] rfl rfl (take_ofW HT_.out HW_.out (by kernel_rfl)) (fun _ _ _ h => h) (Or.inl ⟨by rfl, ?_⟩) hHeld ?_ ?_
   rotate_left
   · rintro w' ⟨s0, s1, s2, s3, s4, s5⟩
     go_simp
     with_reducible rfl
   rotate_left
   · simp only [Act.put, List.setIfInBounds_toArray, List.set_cons_zero, List.set_cons_succ, i64_w, i32_w]
     rfl
   refine take_ (i := 3) (N := some 6) (v := ?_) (a' := ?_) #[true, true, true, true, true, false, true, false, true, false, false, true, false, false, false, false] rfl rfl (take_ofW HT_.out HW_.out (by kernel_rfl)) (fun _ _ _ h => h) (Or.inl ⟨by rfl, ?_⟩) hHeld ?_ ?_
   rotate_left
   · rintro w' ⟨s0, s1, s2, s3, s4, s5⟩
     go_simp
     with_reducible rfl
   rotate_left
   · simp only [Act.put, List.setIfInBounds_toArray, List.set_cons_zero, List.set_cons_succ, i64_w, i32_w]
     rfl
   refine take_ (i := 5) (N := some 8) (v := ?_) (a' := ?_) #[true, true, true, true, true, true, true, false, true, false, false, true, false, false, false, false] rfl rfl (take_ofW HT_.out HW_.out (by kernel_rfl)) (fun _ _ _ h => h) (Or.inl ⟨by rfl, ?_⟩) hHeld ?_ ?_
   rotate_left
   · rintro w' ⟨s0, s1, s2, s3, s4, s5⟩
     go_simp
     with_reducible rfl
   rotate_left
   · simp only [Act.put, List.setIfInBounds_toArray, List.set_cons_zero, List.set_cons_succ, i64_w, i32_w]
     rfl
   refine take_ (i := 7) (N := some 10) (v := ?_) (a' := ?_) #[true, true, true, true, true, true, true, true, true, false, false, true, false, false, false, false] rfl rfl (take_ofW HT_.out HW_.out (by kernel_rfl)) (fun _ _ _ h => h) (Or.inl ⟨by rfl, ?_⟩) hHeld ?_ ?_
   rotate_left
   · rintro w' ⟨s0, s1, s2, s3, s4, s5⟩
     go_simp
     with_reducible rfl
   rotate_left
   · simp only [Act.put, List.setIfInBounds_toArray, List.set_cons_zero, List.set_cons_succ, i64_w, i32_w]
     rfl
   refine take_ (i := 9) (N := some 12) (v := ?_) (a' := ?_) #[true, true, true, true, true, true, true, true, true, true, false, true, false, false, false, false] rfl rfl (take_ofW HT_.out HW_.out (by kernel_rfl)) (fun _ _ _ h => h) (Or.inl ⟨by rfl, ?_⟩) hHeld ?_ ?_
   rotate_left
   · rintro w' ⟨s0, s1, s2, s3, s4, s5⟩
     go_simp
     with_reducible rfl
   rotate_left
   · simp only [Act.put, List.setIfInBounds_toArray, List.set_cons_zero, List.set_cons_succ, i64_w, i32_w]
     rfl
   refine take_ (i := 12) (N := some 15) (v := ?_) (a' := ?_) #[true, true, true, true, true, true, true, true, true, true, false, true, true, false, false, false] rfl rfl (take_ofW HT_.out HW_.out (by kernel_rfl)) (fun _ _ _ h => h) (Or.inl ⟨by rfl, ?_⟩) hHeld ?_ ?_
   rotate_left
   · rintro w' ⟨s0, s1, s2, s3, s4, s5⟩
     go_simp
     with_reducible rfl
   rotate_left
   · simp only [Act.put, List.setIfInBounds_toArray, List.set_cons_zero, List.set_cons_succ, i64_w, i32_w]
     rfl
   refine one_ (i := 10) (N := some 13) #[true, true, true, true, true, true, true, true, true, true, true, true, true, false, false, false] rfl rfl (one_of HT_.out (by kernel_rfl)) (by decide) (fun K hK => ?_)
   refine Kd.R_lit_step Kd.string _ 9 ?hg (N := 13) ?hd (xs := ([] : List ByteArray)) (inner := []) (ok := fun _ => True) (okp := fun _ => True) ?hr ?hp (fun _ hk => hk) trivial (Below.refl _ _) (Nat.le_refl _) (by simp) ?_; (case hd => rfl); (case hg => rfl); (case hr => (go_simp; done)); (case hp => exact (Reps.none _ _))
   intro v272 w6 ho7 hb hg_ hnew_
   clear hg_ hnew_
   (rw [← Ny271.out] at ho7)
   have n0_ := Aside0.mk (Kd.R_lower ho7 (below_size HB.out))
   have n1_ := Aside0.mk (blk_below BK269.out hb)
   have n2_ := Aside0.mk (blk_below BK270.out hb)
   have n3_ := Aside0.mk (below_step HB.out hb)
   clear BK269 BK270 HB
   have HO273 := n0_
   have BK269 := n1_
   have BK270 := n2_
   have HB := n3_
   clear n0_ n1_ n2_ n3_ hb ho7
   refine hK.out _ _ ⟨(blk_cell BK269.out 0).trans rfl, (blk_cell BK269.out 1).trans rfl, (blk_cell BK269.out 2).trans rfl, (blk_cell BK269.out 3).trans rfl, (blk_cell BK269.out 4).trans rfl, (blk_cell BK269.out 5).trans rfl⟩ (fun hHeld => ?_)
   clear hK K
   refine norm_ (a' := ?_) ?_ ?_
   rotate_left
   · show Act.put _ (some 13) _ = _
     simp only [Act.put, List.setIfInBounds_toArray, List.set_cons_zero, List.set_cons_succ, i64_w, i32_w]
     rfl
   refine one_ (i := 13) (N := some 16) #[true, true, true, true, true, true, true, true, true, true, true, true, true, true, false, false] rfl rfl (one_of HT_.out (by kernel_rfl)) (by decide) (fun K hK => ?_)
   refine Kd.R_append_rows_step Kd.string (w0 := w) w.heap.size rfl (.tmp 13) (.tmp 15) 38 9 (.string ⟨#[]⟩) 16 rfl Tryz.underlying38 info9 rfl (by decide) (by omega) v272 y271 l0_5 _ _ _ (fun _ => True) (fun _ => False) rfl rfl ?aO ?aR (fun _ _ h => h) (fun _ h => h.elim) ?aF ?aB ?aS ?aL ?_
   (case aR => repeat (exact (Kd.C_below HR0_5.out HB.out)))
   (case aB => exact HB.out)
   (case aF => exact (fun _ _ => trivial))
   (case aO => exact HO273.out)
   (case aS => exact (below_size HB.out))
   (case aL => have := LMc2.out; omega)
   intro v275 w8 ho hb hg hat
   rw [← Ny274.out] at ho
   have n0_ := Aside0.mk (blk_grown BK269.out hg (Kd.R_ne HO273.out BK269.out (by decide)))
   have n1_ := Aside0.mk (blk_grown BK270.out hg (Kd.R_ne HO273.out BK270.out (by decide)))
   have n2_ := Aside0.mk hb
   have n3_ := Aside0.mk ho
   clear BK269 BK270 HB HO273
   have BK269 := n0_
   have BK270 := n1_
   have HB := n2_
   have HO276 := n3_
   clear n0_ n1_ n2_ n3_ ho hb hg hat
   obtain ⟨Ao9, co9, eo9⟩ := Kd.R_slice HO276.out
   (subst eo9)
   refine hK.out _ _ ⟨(blk_cell BK269.out 0).trans rfl, (blk_cell BK269.out 1).trans rfl, (blk_cell BK269.out 2).trans rfl, (blk_cell BK269.out 3).trans rfl, (blk_cell BK269.out 4).trans rfl, (blk_cell BK269.out 5).trans rfl⟩ (fun hHeld => ?_)
   clear hK K
   refine norm_ (a' := ?_) ?_ ?_
   rotate_left
   · show Act.put _ (some 16) _ = _
     simp only [Act.put, List.setIfInBounds_toArray, List.set_cons_zero, List.set_cons_succ, i64_w, i32_w]
     rfl
   refine pure_ (i := 14) (N := some 17) (v := ?_) (a' := ?_) #[true, true, true, true, true, true, true, true, true, true, true, true, true, true, true, false] rfl rfl (any_of HT_.out (by kernel_rfl)) (fun _ _ _ h => h) (Or.inl ⟨by rfl, ?_⟩) ?_ ?_
   rotate_left
   · intro w'
     go_simp
     with_reducible rfl
   rotate_left
   · simp only [Act.put, List.setIfInBounds_toArray, List.set_cons_zero, List.set_cons_succ, i64_w, i32_w]
     rfl
   refine one_ (i := 15) (N := none) #[true, true, true, true, true, true, true, true, true, true, true, true, true, true, true, true] rfl rfl (one_of HT_.out (by kernel_rfl)) (by decide) (fun K hK => ?_)
   have hs10 : w8.cell? ⟨gb270, 0, none⟩ = some (.string (⟨#[]⟩ : ByteArray)) := (blk_cell BK270.out 0).trans rfl
   have hfs10 := blk_frozen BK270.out 0
   have hns10_0 := NB269_270.out
   have hms10_0 := NB270_269.out
   have hs11 : w8.cell? ⟨gb270, 1, none⟩ = some (.string (⟨#[]⟩ : ByteArray)) := (blk_cell BK270.out 1).trans rfl
   have hfs11 := blk_frozen BK270.out 1
   have hns11_0 := NB269_270.out
   have hms11_0 := NB270_269.out
   have hs12 : w8.cell? ⟨gb270, 2, none⟩ = some (.int .i64 0) := (blk_cell BK270.out 2).trans rfl
   have hfs12 := blk_frozen BK270.out 2
   have hns12_0 := NB269_270.out
   have hms12_0 := NB270_269.out
   have hs13 : w8.cell? ⟨gb270, 3, none⟩ = some (.bool false) := (blk_cell BK270.out 3).trans rfl
   have hfs13 := blk_frozen BK270.out 3
   have hns13_0 := NB269_270.out
   have hms13_0 := NB270_269.out
   have hs14 : w8.cell? ⟨gb270, 4, none⟩ = some (.string (⟨#[]⟩ : ByteArray)) := (blk_cell BK270.out 4).trans rfl
   have hfs14 := blk_frozen BK270.out 4
   have hns14_0 := NB269_270.out
   have hms14_0 := NB270_269.out
   have hs15 : w8.cell? ⟨gb270, 5, none⟩ = some (.slice none 0 0) := (blk_cell BK270.out 5).trans rfl
   have hfs15 := blk_frozen BK270.out 5
   have hns15_0 := NB269_270.out
   have hms15_0 := NB270_269.out
   refine skip_ (w1 := ?_) rfl rfl ?_ ?_
   rotate_left
   · go_simp
     rfl
   refine hK.out _ _ ⟨((cell_far (p := ⟨gb270, _, none⟩) NB269_270.out _).trans (((cell_far (p := ⟨gb270, _, none⟩) NB269_270.out _).trans (((cell_far (p := ⟨gb270, _, none⟩) NB269_270.out _).trans (((cell_far (p := ⟨gb270, _, none⟩) NB269_270.out _).trans (((cell_far (p := ⟨gb270, _, none⟩) NB269_270.out _).trans (((cell_far (p := ⟨gb270, _, none⟩) NB269_270.out _).trans (hHeld.1)))))))))))), ((cell_far (p := ⟨gb270, _, none⟩) NB269_270.out _).trans (((cell_far (p := ⟨gb270, _, none⟩) NB269_270.out _).trans (((cell_far (p := ⟨gb270, _, none⟩) NB269_270.out _).trans (((cell_far (p := ⟨gb270, _, none⟩) NB269_270.out _).trans (((cell_far (p := ⟨gb270, _, none⟩) NB269_270.out _).trans (((cell_far (p := ⟨gb270, _, none⟩) NB269_270.out _).trans (hHeld.2.1)))))))))))), ((cell_far (p := ⟨gb270, _, none⟩) NB269_270.out _).trans (((cell_far (p := ⟨gb270, _, none⟩) NB269_270.out _).trans (((cell_far (p := ⟨gb270, _, none⟩) NB269_270.out _).trans (((cell_far (p := ⟨gb270, _, none⟩) NB269_270.out _).trans (((cell_far (p := ⟨gb270, _, none⟩) NB269_270.out _).trans (((cell_far (p := ⟨gb270, _, none⟩) NB269_270.out _).trans (hHeld.2.2.1)))))))))))), ((cell_far (p := ⟨gb270, _, none⟩) NB269_270.out _).trans (((cell_far (p := ⟨gb270, _, none⟩) NB269_270.out _).trans (((cell_far (p := ⟨gb270, _, none⟩) NB269_270.out _).trans (((cell_far (p := ⟨gb270, _, none⟩) NB269_270.out _).trans (((cell_far (p := ⟨gb270, _, none⟩) NB269_270.out _).trans (((cell_far (p := ⟨gb270, _, none⟩) NB269_270.out _).trans (hHeld.2.2.2.1)))))))))))), ((cell_far (p := ⟨gb270, _, none⟩) NB269_270.out _).trans (((cell_far (p := ⟨gb270, _, none⟩) NB269_270.out _).trans (((cell_far (p := ⟨gb270, _, none⟩) NB269_270.out _).trans (((cell_far (p := ⟨gb270, _, none⟩) NB269_270.out _).trans (((cell_far (p := ⟨gb270, _, none⟩) NB269_270.out _).trans (((cell_far (p := ⟨gb270, _, none⟩) NB269_270.out _).trans (hHeld.2.2.2.2.1)))))))))))), ((cell_far (p := ⟨gb270, _, none⟩) NB269_270.out _).trans (((cell_far (p := ⟨gb270, _, none⟩) NB269_270.out _).trans (((cell_far (p := ⟨gb270, _, none⟩) NB269_270.out _).trans (((cell_far (p := ⟨gb270, _, none⟩) NB269_270.out _).trans (((cell_far (p := ⟨gb270, _, none⟩) NB269_270.out _).trans (((cell_far (p := ⟨gb270, _, none⟩) NB269_270.out _).trans (hHeld.2.2.2.2.2))))))))))))⟩ (fun hHeld => ?_)
   clear hK K
   refine done_ (done_of HT_.out (by kernel_rfl)) ?_
   try go_wp2
   refine bodyPost_ret (results_cell_row rfl _ _ gb270 43 #[.string a0_0, .string a0_1, .int .i64 a0_2, .bool a0_3, .string a0_4, .slice Ao9 y274.length co9] (0, 0) _ rfl (put6_ BK270.out _ _ _ _ _ _) Tryz.underlying43 rfl (by kernel_rfl)) rfl ?_
   exact ⟨_, rfl, by (with_reducible repeat (first | apply Kd.R_alloc  | apply Kd.R_drewN  | apply Kd.R_drew)); exact Kd.R_mono (R_far6 (Kd.R_types HO276.out BK270.out (by decide)) (fun _ hk => hk.2)) (fun _ hk => trivial), by (repeat (with_reducible first | exact HB.out | refine below_set ?_ GE270.out))⟩
 · rw [if_neg c2] at H
   exact absurd H (by simp)
end Go.Proofs.YtmimipgmhgalaaaGreatDoor.PAll
end
section
namespace Go.Proofs.YtmimipgmhgalaaaGreatDoor.PAll
open Go.RowKit Go.Proofs.YtmimipgmhgalaaaGreatDoorW.PrintWords Go.Proofs.YtmimipgmhgalaaaGreatDoorW.PrintLast Go.Proofs.YtmimipgmhgalaaaGreatDoorW.PrintMore
attribute [local go_sem] max2_int min2_int max_two min_two max_three min_three max_four min_four
set_option linter.unusedVariables false
set_option linter.unusedSimpArgs false
def wicketlaw11_copied.l0 : Nat → List (S40) → List (S40) → Int → Option ((List (S40)))
 | 0, _, _, _ => none
 | k + 1, x0, x3, x4 => if x4 < (x0.length : Int) then (if 0 ≤ x4 then ((wicketlaw11_ours.f ((rd_T40 x0 x4).f0) ((rd_T40 x0 x4).f1) ((rd_T40 x0 x4).f2) ((rd_T40 x0 x4).f3) ((rd_T40 x0 x4).f4) ((rd_T40 x0 x4).f5)).bind fun bt278 => ((wicketlaw11_theirs.f bt278.1 bt278.2.1 bt278.2.2.1 bt278.2.2.2.1 bt278.2.2.2.2.1 bt278.2.2.2.2.2).bind fun bt286 => (if x3.length < 1599289640401 then (wicketlaw11_copied.l0 k x0 (x3 ++ [(⟨bt286.1, bt286.2.1, bt286.2.2.1, bt286.2.2.2.1, bt286.2.2.2.2.1, bt286.2.2.2.2.2⟩ : S40)]) (wrap64 (x4 + 1))) else (none)))) else (none)) else (some x3)
def wicketlaw11_copied.f (k : Nat) (l0 : List (S40)) : Option ((List (S40))) := wicketlaw11_copied.l0 k l0 ([] : List (S40)) 0
set_option maxHeartbeats 8000000 in
set_option maxRecDepth 100000 in
theorem wicketlaw11_copied.calls (k : Nat) (A0 : Option Addr) (c0 : Nat) (l0 : List (S40)) (r : List (S40)) (w : World) (hr0 : Kd.C k40 w A0 l0.length l0) (hc0 : l0.length ≤ c0) (h : wicketlaw11_copied.f k l0 = some r) :
 Calls Tryz.prog 15 #[.slice A0 l0.length c0] w fun e w' => ∃ v0_ : Value, e = .returned (v0_) ∧ Kd.S k40 40 w' w.heap.size (fun _ => True) v0_ r ∧ Below w.heap.size w w' := by
 have hu40 := Tryz.underlying40
 have HR0 := Aside0.mk hr0
 have HC0 := Aside0.mk hc0
 clear hr0 hc0
 have HB := Aside0.mk (Below.refl w.heap.size w)
 have H : (wicketlaw11_copied.l0 k l0 ([] : List (S40)) 0) = some r := h
 clear h
 have H' := Aside0.mk H
 clear H
 go_enter Tryz.func15, Tryz.ntmps15
 go_wp2
 go_loopg [3, 4] k (fun kq v3 v4 w' => ∃ (x3_1 : List (S40)) (x4_1 : Int), v4 = .int .i64 x4_1 ∧ Aside0 (wicketlaw11_copied.l0 kq l0 x3_1 x4_1 = some r) ∧ Aside0 (kq ≤ k) ∧ Aside0 (Kd.S k40 40 w' w.heap.size (fun _ => True) v3 x3_1) ∧ Aside0 (Below w.heap.size w w'))
 case atStart => exact ⟨(([] : List (S40))), (0), rfl, H', ⟨Nat.le_refl _⟩, ⟨by (exact Kd.S_nil _ _ _ _ _)⟩, ⟨HB.out⟩⟩
 case round =>
  clear H'
  obtain ⟨x3_1, x4_1, rfl, HA, HK1, HO_3, HB⟩ := hrel
  cases gk with
  | zero => exact absurd HA.out (by simp [wicketlaw11_copied.l0])
  | succ k1 =>
   have H := HA.out
   clear HA
   simp only [wicketlaw11_copied.l0] at H
   by_cases c2 : x4_1 < (l0.length : Int)
   · rw [if_pos c2] at H
     have c2b0 : decide (x4_1 < (l0.length : Int)) = true := decide_eq_true c2
     clear c2
     by_cases c3 : 0 ≤ x4_1
     · rw [if_pos c3] at H
       have c3b0 : decide (0 ≤ x4_1) = true := decide_eq_true c3
       clear c3
       replace H := Option.bind_eq_some_iff.mp H
       obtain ⟨⟨t278, t279, t280, t281, t282, t283⟩, A40, H⟩ := H
       replace H : ((wicketlaw11_theirs.f t278 t279 t280 t281 t282 t283).bind fun bt286 => (if x3_1.length < 1599289640401 then (wicketlaw11_copied.l0 k1 l0 (x3_1 ++ [(⟨bt286.1, bt286.2.1, bt286.2.2.1, bt286.2.2.2.1, bt286.2.2.2.2.1, bt286.2.2.2.2.2⟩ : S40)]) (wrap64 (x4_1 + 1))) else (none))) = some r := H
       have A4 := Aside0.mk A40
       clear A40
       replace H := Option.bind_eq_some_iff.mp H
       obtain ⟨⟨t286, t287, t288, t289, t290, t291⟩, A50, H⟩ := H
       replace H : (if x3_1.length < 1599289640401 then (wicketlaw11_copied.l0 k1 l0 (x3_1 ++ [(⟨t286, t287, t288, t289, t290, t291⟩ : S40)]) (wrap64 (x4_1 + 1))) else (none)) = some r := H
       have A5 := Aside0.mk A50
       clear A50
       by_cases c6 : x3_1.length < 1599289640401
       · rw [if_pos c6] at H
         have LMc6 := Aside0.mk c6
         clear c6
         obtain ⟨y294, hy294⟩ : ∃ y_ : List (S40), y_ = (x3_1 ++ [(⟨t286, t287, t288, t289, t290, t291⟩ : S40)]) := ⟨_, rfl⟩
         replace H : (wicketlaw11_copied.l0 k1 l0 y294 (wrap64 (x4_1 + 1))) = some r := by (rw [hy294]; with_reducible exact H)
         have Ny294 := Aside0.mk hy294
         clear hy294
         have H' := Aside0.mk H
         clear H
         have p277 : 0 ≤ (x4_1 : Int) := of_decide_eq_true (by assumption)
         have q277 : x4_1 < (l0.length : Int) := of_decide_eq_true (by assumption)
         obtain ⟨ad277, A277_5, c277_5, e277, hx277_0, hx277_1, hx277_2, hx277_3, hx277_4, hx277_5, hl277_5, hi277_5⟩ := at_T40 HR0.out x4_1 p277 q277
         cases e277
         replace hx277_0 := (HB.out.cell (World.block_lt_of_cell? w _ hx277_0)).trans hx277_0
         replace hx277_1 := (HB.out.cell (World.block_lt_of_cell? w _ hx277_1)).trans hx277_1
         replace hx277_2 := (HB.out.cell (World.block_lt_of_cell? w _ hx277_2)).trans hx277_2
         replace hx277_3 := (HB.out.cell (World.block_lt_of_cell? w _ hx277_3)).trans hx277_3
         replace hx277_4 := (HB.out.cell (World.block_lt_of_cell? w _ hx277_4)).trans hx277_4
         replace hx277_5 := (HB.out.cell (World.block_lt_of_cell? w _ hx277_5)).trans hx277_5
         have HR277_5 := Aside0.mk hi277_5
         have HC277_5 := Aside0.mk hl277_5
         clear hi277_5 hl277_5
         replace p277 := eq_true p277
         replace q277 := eq_true q277
         go_wp2_with (first | ((with_reducible refine gate_callee (f := 25) rfl ?_); refine goesL_ (some 16) rfl rfl Tryz.func25 (by kernel_rfl) rfl #[.agg #[.string ((rd_T40 l0 x4_1).f0), .string ((rd_T40 l0 x4_1).f1), .int .i64 ((rd_T40 l0 x4_1).f2), .bool ((rd_T40 l0 x4_1).f3), .string ((rd_T40 l0 x4_1).f4), .slice A277_5 ((rd_T40 l0 x4_1).f5).length c277_5]] rfl (by ((try simp only [List.map_toArray, List.map_cons, List.map_nil]); (rfl))) ?_; (with_reducible refine (wicketlaw11_ours.calls ((rd_T40 l0 x4_1).f0) ((rd_T40 l0 x4_1).f1) ((rd_T40 l0 x4_1).f2) ((rd_T40 l0 x4_1).f3) ((rd_T40 l0 x4_1).f4) _ _ ((rd_T40 l0 x4_1).f5) t278 t279 t280 t281 t282 t283 _ ?side1 ?side2 A4.out).mono ?_); (case side1 => repeat (exact (Kd.C_below HR277_5.out HB.out))); (case side2 => exact HC277_5.out); rintro e w7 ⟨v284, rfl, ho0, hb⟩; refine ⟨_, rfl, ?_⟩; replace HO_3 := Aside0.mk (Kd.S_elder' HO_3.out (Kd.R_base ho0) hb); have HO285 := Aside0.mk (Kd.R_lower ho0 (below_size HB.out)); replace HB := Aside0.mk (below_step HB.out hb); clear hb ho0; obtain ⟨Ao8, co8, eo8⟩ := Kd.R_slice HO285.out; subst eo8) | ((with_reducible refine gate_callee (f := 24) rfl ?_); refine goesL_ (some 17) rfl rfl Tryz.func24 (by kernel_rfl) rfl #[.agg #[.string t278, .string t279, .int .i64 t280, .bool t281, .string t282, .slice Ao8 t283.length co8]] rfl (by ((try simp only [List.map_toArray, List.map_cons, List.map_nil]); (rfl))) ?_; (with_reducible refine (wicketlaw11_theirs.calls t278 t279 t280 t281 t282 _ _ t283 t286 t287 t288 t289 t290 t291 _ ?side1 ?side2 A5.out).mono ?_); (case side1 => repeat (exact (Kd.R_reads' HO285.out).2.2)); (case side2 => exact (Kd.R_reads' HO285.out).2.1); rintro e w9 ⟨v292, rfl, ho0, hb⟩; refine ⟨_, rfl, ?_⟩; replace HO_3 := Aside0.mk (Kd.S_elder' HO_3.out (Kd.R_base ho0) hb); have HO293 := Aside0.mk (Kd.R_lower (Kd.R_new' ho0 (Kd.R_lt HO285.out)) (below_size HB.out)); replace HO285 := Aside0.mk (Kd.R_elder' HO285.out (Kd.R_base ho0) hb); replace HB := Aside0.mk (below_step HB.out hb); clear hb ho0; obtain ⟨Ao11, co11, eo11⟩ := Kd.R_slice HO293.out; subst eo11) | ((with_reducible refine gate_builtin (b := .append) (xs := #[.tmp 11, .tmp 18]) rfl ?_); at_builtin; refine Kd.S_append k40 (w0 := w) w.heap.size rfl (.tmp 11) (.tmp 18) 22 40 (.agg #[(.string ⟨#[]⟩), (.string ⟨#[]⟩), (.int .i64 0), (.bool false), (.string ⟨#[]⟩), (.slice none 0 0)]) 88 rfl Tryz.underlying22 info40 rfl (by decide) (by omega) u3 x3_1 (⟨t286, t287, t288, t289, t290, t291⟩ : S40) [.string t286, .string t287, .int .i64 t288, .bool t289, .string t290, .slice Ao11 t291.length co11] (fun k_ => some k_ ≠ (.slice Ao8 t283.length co8 : Value).ownBlock) (fun k_ => some k_ = (.slice Ao11 t291.length co11 : Value).ownBlock) rfl rfl ?aP (fun k_ hk_ => ((Kd.R_mono (ok' := fun k_ => ((fun k_ => some k_ ≠ (.slice Ao8 t283.length co8 : Value).ownBlock)) k_ ∧ some k_ ≠ (u3 : Value).ownBlock) (Kd.R_apart' (HO293.out) (Kd.S_typed HO_3.out) (by decide)) (fun k_ hk => ⟨hk.1.2, hk.2⟩))).1 k_ hk_.symm) ?aF ?aO ?aB ?aS ?aL ?_; (case aP => exact k40_mkM _ _ _ (⟨t286, t287, t288, t289, t290, t291⟩ : S40) (Kd.R_mono (Kd.R_tight rfl (Kd.R_mono (ok' := fun k_ => ((fun k_ => some k_ ≠ (.slice Ao8 t283.length co8 : Value).ownBlock)) k_ ∧ some k_ ≠ (u3 : Value).ownBlock) (Kd.R_apart' (HO293.out) (Kd.S_typed HO_3.out) (by decide)) (fun k_ hk => ⟨hk.1.2, hk.2⟩))) (fun _ h_ => h_))); (case aB => exact HB.out); (case aF => exact (fun k_ hk => Kd.fresh' (Kd.R_lt HO285.out) k_ hk)); (case aO => exact (by (with_reducible repeat (first | apply Kd.S_alloc  | apply Kd.S_drewN  | apply Kd.S_drew)); exact Kd.S_mono HO_3.out (fun k_ hk => ⟨hk.1.2, fun e_ => hk.2 e_⟩))); (case aS => exact (below_size HB.out)); (case aL => have := LMc6.out; omega); intro v295 w10 ho hb hg hat; rw [← Ny294.out] at ho; have n0_ := Aside0.mk (Kd.R_over' HO285.out (Kd.S_typed HO_3.out) (by decide) hg); have n1_ := Aside0.mk hb; have n2_ := Aside0.mk ho; clear HO285 HB; clear HO_3 HO293; have HO285 := n0_; have HB := n1_; have HO296 := n2_; clear n0_ n1_ n2_; clear ho hb hg hat))
         go_roundg k1
         case measure => have := HK1.out; omega
         case rel => exact ⟨(y294), (wrap64 (x4_1 + 1)), rfl, H', ⟨by have := HK1.out; omega⟩, ⟨by (with_reducible repeat (first | apply Kd.S_alloc  | apply Kd.S_drewN  | apply Kd.S_drew)); exact Kd.S_mono HO296.out (fun _ hk => trivial)⟩, ⟨HB.out⟩⟩
       · rw [if_neg c6] at H
         exact absurd H (by simp)
     · rw [if_neg c3] at H
       exact absurd H (by simp)
   · rw [if_neg c2] at H
     have c2b0 : decide (x4_1 < (l0.length : Int)) = false := decide_eq_false c2
     clear c2
     obtain rfl := Option.some.inj H
     go_wp2
     go_ret
     exact ⟨_, rfl, by ((with_reducible repeat (first | apply Kd.S_alloc  | apply Kd.S_drewN  | apply Kd.S_drew)); exact HO_3.out), by (with_reducible exact HB.out)⟩
def wicketlaw11_all.l0 : Nat → List (S40) → List (S43) → Int → Option ((List (S43)))
 | 0, _, _, _ => none
 | k + 1, x0, x3, x4 => if x4 < (x0.length : Int) then (if 0 ≤ x4 then ((wicketlaw11_ours.f ((rd_T40 x0 x4).f0) ((rd_T40 x0 x4).f1) ((rd_T40 x0 x4).f2) ((rd_T40 x0 x4).f3) ((rd_T40 x0 x4).f4) ((rd_T40 x0 x4).f5)).bind fun bt298 => (if x3.length < 1599289640401 then (wicketlaw11_all.l0 k x0 (x3 ++ [(⟨bt298.1, bt298.2.1, bt298.2.2.1, bt298.2.2.2.1, bt298.2.2.2.2.1, bt298.2.2.2.2.2⟩ : S43)]) (wrap64 (x4 + 1))) else (none))) else (none)) else (some x3)
def wicketlaw11_all.f (k : Nat) (l0 : List (S40)) : Option ((List (S43))) := wicketlaw11_all.l0 k l0 ([] : List (S43)) 0
set_option maxHeartbeats 8000000 in
set_option maxRecDepth 100000 in
theorem wicketlaw11_all.calls (k : Nat) (A0 : Option Addr) (c0 : Nat) (l0 : List (S40)) (r : List (S43)) (w : World) (hr0 : Kd.C k40 w A0 l0.length l0) (hc0 : l0.length ≤ c0) (h : wicketlaw11_all.f k l0 = some r) :
 Calls Tryz.prog 18 #[.slice A0 l0.length c0] w fun e w' => ∃ v0_ : Value, e = .returned (v0_) ∧ Kd.S k43 43 w' w.heap.size (fun _ => True) v0_ r ∧ Below w.heap.size w w' := by
 have hu40 := Tryz.underlying40
 have HR0 := Aside0.mk hr0
 have HC0 := Aside0.mk hc0
 clear hr0 hc0
 have HB := Aside0.mk (Below.refl w.heap.size w)
 have H : (wicketlaw11_all.l0 k l0 ([] : List (S43)) 0) = some r := h
 clear h
 have H' := Aside0.mk H
 clear H
 go_enter Tryz.func18, Tryz.ntmps18
 go_wp2
 go_loopg [3, 4] k (fun kq v3 v4 w' => ∃ (x3_1 : List (S43)) (x4_1 : Int), v4 = .int .i64 x4_1 ∧ Aside0 (wicketlaw11_all.l0 kq l0 x3_1 x4_1 = some r) ∧ Aside0 (kq ≤ k) ∧ Aside0 (Kd.S k43 43 w' w.heap.size (fun _ => True) v3 x3_1) ∧ Aside0 (Below w.heap.size w w'))
 case atStart => exact ⟨(([] : List (S43))), (0), rfl, H', ⟨Nat.le_refl _⟩, ⟨by (exact Kd.S_nil _ _ _ _ _)⟩, ⟨HB.out⟩⟩
 case round =>
  clear H'
  obtain ⟨x3_1, x4_1, rfl, HA, HK1, HO_3, HB⟩ := hrel
  cases gk with
  | zero => exact absurd HA.out (by simp [wicketlaw11_all.l0])
  | succ k1 =>
   have H := HA.out
   clear HA
   simp only [wicketlaw11_all.l0] at H
   by_cases c2 : x4_1 < (l0.length : Int)
   · rw [if_pos c2] at H
     have c2b0 : decide (x4_1 < (l0.length : Int)) = true := decide_eq_true c2
     clear c2
     by_cases c3 : 0 ≤ x4_1
     · rw [if_pos c3] at H
       have c3b0 : decide (0 ≤ x4_1) = true := decide_eq_true c3
       clear c3
       replace H := Option.bind_eq_some_iff.mp H
       obtain ⟨⟨t298, t299, t300, t301, t302, t303⟩, A40, H⟩ := H
       replace H : (if x3_1.length < 1599289640401 then (wicketlaw11_all.l0 k1 l0 (x3_1 ++ [(⟨t298, t299, t300, t301, t302, t303⟩ : S43)]) (wrap64 (x4_1 + 1))) else (none)) = some r := H
       have A4 := Aside0.mk A40
       clear A40
       by_cases c5 : x3_1.length < 1599289640401
       · rw [if_pos c5] at H
         have LMc5 := Aside0.mk c5
         clear c5
         obtain ⟨y306, hy306⟩ : ∃ y_ : List (S43), y_ = (x3_1 ++ [(⟨t298, t299, t300, t301, t302, t303⟩ : S43)]) := ⟨_, rfl⟩
         replace H : (wicketlaw11_all.l0 k1 l0 y306 (wrap64 (x4_1 + 1))) = some r := by (rw [hy306]; with_reducible exact H)
         have Ny306 := Aside0.mk hy306
         clear hy306
         have H' := Aside0.mk H
         clear H
         have p297 : 0 ≤ (x4_1 : Int) := of_decide_eq_true (by assumption)
         have q297 : x4_1 < (l0.length : Int) := of_decide_eq_true (by assumption)
         obtain ⟨ad297, A297_5, c297_5, e297, hx297_0, hx297_1, hx297_2, hx297_3, hx297_4, hx297_5, hl297_5, hi297_5⟩ := at_T40 HR0.out x4_1 p297 q297
         cases e297
         replace hx297_0 := (HB.out.cell (World.block_lt_of_cell? w _ hx297_0)).trans hx297_0
         replace hx297_1 := (HB.out.cell (World.block_lt_of_cell? w _ hx297_1)).trans hx297_1
         replace hx297_2 := (HB.out.cell (World.block_lt_of_cell? w _ hx297_2)).trans hx297_2
         replace hx297_3 := (HB.out.cell (World.block_lt_of_cell? w _ hx297_3)).trans hx297_3
         replace hx297_4 := (HB.out.cell (World.block_lt_of_cell? w _ hx297_4)).trans hx297_4
         replace hx297_5 := (HB.out.cell (World.block_lt_of_cell? w _ hx297_5)).trans hx297_5
         have HR297_5 := Aside0.mk hi297_5
         have HC297_5 := Aside0.mk hl297_5
         clear hi297_5 hl297_5
         replace p297 := eq_true p297
         replace q297 := eq_true q297
         go_wp2_with (first | ((with_reducible refine gate_callee (f := 25) rfl ?_); refine goesL_ (some 16) rfl rfl Tryz.func25 (by kernel_rfl) rfl #[.agg #[.string ((rd_T40 l0 x4_1).f0), .string ((rd_T40 l0 x4_1).f1), .int .i64 ((rd_T40 l0 x4_1).f2), .bool ((rd_T40 l0 x4_1).f3), .string ((rd_T40 l0 x4_1).f4), .slice A297_5 ((rd_T40 l0 x4_1).f5).length c297_5]] rfl (by ((try simp only [List.map_toArray, List.map_cons, List.map_nil]); (rfl))) ?_; (with_reducible refine (wicketlaw11_ours.calls ((rd_T40 l0 x4_1).f0) ((rd_T40 l0 x4_1).f1) ((rd_T40 l0 x4_1).f2) ((rd_T40 l0 x4_1).f3) ((rd_T40 l0 x4_1).f4) _ _ ((rd_T40 l0 x4_1).f5) t298 t299 t300 t301 t302 t303 _ ?side1 ?side2 A4.out).mono ?_); (case side1 => repeat (exact (Kd.C_below HR297_5.out HB.out))); (case side2 => exact HC297_5.out); rintro e w6 ⟨v304, rfl, ho0, hb⟩; refine ⟨_, rfl, ?_⟩; replace HO_3 := Aside0.mk (Kd.S_elder' HO_3.out (Kd.R_base ho0) hb); have HO305 := Aside0.mk (Kd.R_lower ho0 (below_size HB.out)); replace HB := Aside0.mk (below_step HB.out hb); clear hb ho0; obtain ⟨Ao8, co8, eo8⟩ := Kd.R_slice HO305.out; subst eo8) | ((with_reducible refine gate_builtin (b := .append) (xs := #[.tmp 11, .tmp 17]) rfl ?_); at_builtin; refine Kd.S_append k43 (w0 := w) w.heap.size rfl (.tmp 11) (.tmp 17) 29 43 (.agg #[(.string ⟨#[]⟩), (.string ⟨#[]⟩), (.int .i64 0), (.bool false), (.string ⟨#[]⟩), (.slice none 0 0)]) 88 rfl Tryz.underlying29 info43 rfl (by decide) (by omega) u3 x3_1 (⟨t298, t299, t300, t301, t302, t303⟩ : S43) [.string t298, .string t299, .int .i64 t300, .bool t301, .string t302, .slice Ao8 t303.length co8] (fun _ => True) (fun k_ => some k_ = (.slice Ao8 t303.length co8 : Value).ownBlock) rfl rfl ?aP (fun k_ hk_ => ((Kd.R_mono (ok' := fun k_ => ((fun _ => True)) k_ ∧ some k_ ≠ (u3 : Value).ownBlock) (Kd.R_apart' (HO305.out) (Kd.S_typed HO_3.out) (by decide)) (fun k_ hk => ⟨trivial, hk.2⟩))).1 k_ hk_.symm) ?aF ?aO ?aB ?aS ?aL ?_; (case aP => exact k43_mkM _ _ _ (⟨t298, t299, t300, t301, t302, t303⟩ : S43) (Kd.R_mono (Kd.R_tight rfl (Kd.R_mono (ok' := fun k_ => ((fun _ => True)) k_ ∧ some k_ ≠ (u3 : Value).ownBlock) (Kd.R_apart' (HO305.out) (Kd.S_typed HO_3.out) (by decide)) (fun k_ hk => ⟨trivial, hk.2⟩))) (fun _ h_ => h_))); (case aB => exact HB.out); (case aF => exact (fun _ _ => trivial)); (case aO => exact (by (with_reducible repeat (first | apply Kd.S_alloc  | apply Kd.S_drewN  | apply Kd.S_drew)); exact Kd.S_mono HO_3.out (fun k_ hk => ⟨trivial, fun e_ => hk.2 e_⟩))); (case aS => exact (below_size HB.out)); (case aL => have := LMc5.out; omega); intro v307 w7 ho hb hg hat; rw [← Ny306.out] at ho; have n0_ := Aside0.mk hb; have n1_ := Aside0.mk ho; clear HB HO_3 HO305; have HB := n0_; have HO308 := n1_; clear n0_ n1_; clear ho hb hg hat))
         go_roundg k1
         case measure => have := HK1.out; omega
         case rel => exact ⟨(y306), (wrap64 (x4_1 + 1)), rfl, H', ⟨by have := HK1.out; omega⟩, ⟨HO308.out⟩, ⟨HB.out⟩⟩
       · rw [if_neg c5] at H
         exact absurd H (by simp)
     · rw [if_neg c3] at H
       exact absurd H (by simp)
   · rw [if_neg c2] at H
     have c2b0 : decide (x4_1 < (l0.length : Int)) = false := decide_eq_false c2
     clear c2
     obtain rfl := Option.some.inj H
     go_wp2
     go_ret
     exact ⟨_, rfl, by ((with_reducible repeat (first | apply Kd.S_alloc  | apply Kd.S_drewN  | apply Kd.S_drew)); exact HO_3.out), by (with_reducible exact HB.out)⟩
end Go.Proofs.YtmimipgmhgalaaaGreatDoor.PAll
end
section
namespace Go.Proofs.YtmimipgmhgalaaaGreatDoor.PAll
open Go.RowKit Go.Proofs.YtmimipgmhgalaaaGreatDoorW.PrintWords Go.Proofs.YtmimipgmhgalaaaGreatDoorW.PrintLast Go.Proofs.YtmimipgmhgalaaaGreatDoorW.PrintMore
attribute [local go_sem] max2_int min2_int max_two min_two max_three min_three max_four min_four
set_option linter.unusedVariables false
set_option linter.unusedSimpArgs false
mutual
def wicketlaw11_same.j0 : Nat → Bool → ByteArray → ByteArray → Int → Bool → ByteArray → List ByteArray → ByteArray → ByteArray → Int → Bool → ByteArray → List ByteArray → Option (Bool)
 | 0, _, _, _, _, _, _, _, _, _, _, _, _, _ => none
 | k + 1, x47, x310000, x310001, x310002, x310003, x310004, x310005, x311000, x311001, x311002, x311003, x311004, x311005 => if x47 = true then (some false) else (wicketlaw11_same.l0 k 0 x310000 x310001 x310002 x310003 x310004 x310005 x311000 x311001 x311002 x311003 x311004 x311005)
def wicketlaw11_same.l0 : Nat → Int → ByteArray → ByteArray → Int → Bool → ByteArray → List ByteArray → ByteArray → ByteArray → Int → Bool → ByteArray → List ByteArray → Option (Bool)
 | 0, _, _, _, _, _, _, _, _, _, _, _, _, _ => none
 | k + 1, x5, x310000, x310001, x310002, x310003, x310004, x310005, x311000, x311001, x311002, x311003, x311004, x311005 => if x5 < (x310005.length : Int) then (if 0 ≤ x5 then (if x5 < (x311005.length : Int) then (if (rdOf ByteArray.empty x310005 x5).toList = (rdOf ByteArray.empty x311005 x5).toList then (wicketlaw11_same.l0 k (wrap64 (x5 + 1)) x310000 x310001 x310002 x310003 x310004 x310005 x311000 x311001 x311002 x311003 x311004 x311005) else (some false)) else (none)) else (none)) else (some true)
end
def wicketlaw11_same.f (k : Nat) (a0_0 : ByteArray) (a0_1 : ByteArray) (a0_2 : Int) (a0_3 : Bool) (a0_4 : ByteArray) (l0_5 : List ByteArray) (a1_0 : ByteArray) (a1_1 : ByteArray) (a1_2 : Int) (a1_3 : Bool) (a1_4 : ByteArray) (l1_5 : List ByteArray) : Option (Bool) := if a0_0.toList = a1_0.toList then (if a0_1.toList = a1_1.toList then (if a0_2 = a1_2 then (if (a0_3 != a1_3) = true then (wicketlaw11_same.j0 k true a0_0 a0_1 a0_2 a0_3 a0_4 l0_5 a1_0 a1_1 a1_2 a1_3 a1_4 l1_5) else (if a0_4.toList = a1_4.toList then (wicketlaw11_same.j0 k ((l0_5.length : Int) != (l1_5.length : Int)) a0_0 a0_1 a0_2 a0_3 a0_4 l0_5 a1_0 a1_1 a1_2 a1_3 a1_4 l1_5) else (wicketlaw11_same.j0 k true a0_0 a0_1 a0_2 a0_3 a0_4 l0_5 a1_0 a1_1 a1_2 a1_3 a1_4 l1_5))) else (wicketlaw11_same.j0 k true a0_0 a0_1 a0_2 a0_3 a0_4 l0_5 a1_0 a1_1 a1_2 a1_3 a1_4 l1_5)) else (wicketlaw11_same.j0 k true a0_0 a0_1 a0_2 a0_3 a0_4 l0_5 a1_0 a1_1 a1_2 a1_3 a1_4 l1_5)) else (wicketlaw11_same.j0 k true a0_0 a0_1 a0_2 a0_3 a0_4 l0_5 a1_0 a1_1 a1_2 a1_3 a1_4 l1_5)
set_option maxHeartbeats 8000000 in
set_option maxRecDepth 100000 in
theorem wicketlaw11_same.calls (k : Nat) (a0_0 : ByteArray) (a0_1 : ByteArray) (a0_2 : Int) (a0_3 : Bool) (a0_4 : ByteArray) (A0_5 : Option Addr) (c0_5 : Nat) (l0_5 : List ByteArray) (a1_0 : ByteArray) (a1_1 : ByteArray) (a1_2 : Int) (a1_3 : Bool) (a1_4 : ByteArray) (A1_5 : Option Addr) (c1_5 : Nat) (l1_5 : List ByteArray) (r : Bool) (w : World) (hr0_5 : Kd.C Kd.string w A0_5 l0_5.length l0_5) (hc0_5 : l0_5.length ≤ c0_5) (hr1_5 : Kd.C Kd.string w A1_5 l1_5.length l1_5) (hc1_5 : l1_5.length ≤ c1_5) (h : wicketlaw11_same.f k a0_0 a0_1 a0_2 a0_3 a0_4 l0_5 a1_0 a1_1 a1_2 a1_3 a1_4 l1_5 = some r) :
 Calls Tryz.prog 31 #[.agg #[.string a0_0, .string a0_1, .int .i64 a0_2, .bool a0_3, .string a0_4, .slice A0_5 l0_5.length c0_5], .agg #[.string a1_0, .string a1_1, .int .i64 a1_2, .bool a1_3, .string a1_4, .slice A1_5 l1_5.length c1_5]] w fun e w' => e = .returned (.bool r) ∧ Below w.heap.size w w' := by
 have hu40 := Tryz.underlying40
 have hu43 := Tryz.underlying43
 have HR0_5 := Aside0.mk hr0_5
 have HC0_5 := Aside0.mk hc0_5
 clear hr0_5 hc0_5
 have HR1_5 := Aside0.mk hr1_5
 have HC1_5 := Aside0.mk hc1_5
 clear hr1_5 hc1_5
 have HB := Aside0.mk (Below.refl w.heap.size w)
 have H : (if a0_0.toList = a1_0.toList then (if a0_1.toList = a1_1.toList then (if a0_2 = a1_2 then (if (a0_3 != a1_3) = true then (wicketlaw11_same.j0 k true a0_0 a0_1 a0_2 a0_3 a0_4 l0_5 a1_0 a1_1 a1_2 a1_3 a1_4 l1_5) else (if a0_4.toList = a1_4.toList then (wicketlaw11_same.j0 k ((l0_5.length : Int) != (l1_5.length : Int)) a0_0 a0_1 a0_2 a0_3 a0_4 l0_5 a1_0 a1_1 a1_2 a1_3 a1_4 l1_5) else (wicketlaw11_same.j0 k true a0_0 a0_1 a0_2 a0_3 a0_4 l0_5 a1_0 a1_1 a1_2 a1_3 a1_4 l1_5))) else (wicketlaw11_same.j0 k true a0_0 a0_1 a0_2 a0_3 a0_4 l0_5 a1_0 a1_1 a1_2 a1_3 a1_4 l1_5)) else (wicketlaw11_same.j0 k true a0_0 a0_1 a0_2 a0_3 a0_4 l0_5 a1_0 a1_1 a1_2 a1_3 a1_4 l1_5)) else (wicketlaw11_same.j0 k true a0_0 a0_1 a0_2 a0_3 a0_4 l0_5 a1_0 a1_1 a1_2 a1_3 a1_4 l1_5)) = some r := h
 clear h
 have HC3 := Aside0.mk H
 clear H
 go_enter Tryz.func31, Tryz.ntmps31
 go_upto_region 1 with (first | ((with_reducible refine gate_dst (N := 2) rfl ?_); (try (refine gate_guard rfl ?_; dsimp only)); refine box_event (by rfl) (N := 2) (by rfl) (cs := #[.string a0_0, .string a0_1, .int .i64 a0_2, .bool a0_3, .string a0_4, .slice A0_5 l0_5.length c0_5]) (t := 40) (by go_simp) ?_; intro gb309 hg w4 hbox hb; have BK309 := Aside0.mk hbox; have GW309 := Aside0.mk ((by rw [hg]; exact (below_size HB.out) : w.heap.size ≤ gb309)); have GE309 := Aside0.mk ((by rw [hg]; exact (below_size HB.out) : w.heap.size ≤ gb309)); replace HB := Aside0.mk (below_step HB.out hb); clear hb hbox hg) | ((with_reducible refine gate_dst (N := 3) rfl ?_); (try (refine gate_guard rfl ?_; dsimp only)); refine box_event (by rfl) (N := 3) (by rfl) (cs := #[.string a1_0, .string a1_1, .int .i64 a1_2, .bool a1_3, .string a1_4, .slice A1_5 l1_5.length c1_5]) (t := 43) (by go_simp) ?_; intro gb310 hg w5 hbox hb; have BK310 := Aside0.mk hbox; have GW310 := Aside0.mk ((by rw [hg]; exact (below_size HB.out) : w.heap.size ≤ gb310)); have GE310 := Aside0.mk ((by rw [hg]; exact (below_size HB.out) : w.heap.size ≤ gb310)); replace HB := Aside0.mk (below_step HB.out hb); have NB309_310 := Aside0.mk ((by rw [hg]; exact Nat.ne_of_lt (blk_lt BK309.out) : gb309 ≠ gb310)); have NB310_309 := Aside0.mk ((by rw [hg]; exact Nat.ne_of_gt (blk_lt BK309.out) : gb310 ≠ gb309)); replace BK309 := Aside0.mk (blk_below BK309.out hb); clear hb hbox hg))
 repeat (go_quiet (first | ((with_reducible refine gate_dst (N := 2) rfl ?_); refine box_event ?hg (N := 2) ?hd (cs := #[.string a0_0, .string a0_1, .int .i64 a0_2, .bool a0_3, .string a0_4, .slice A0_5 l0_5.length c0_5]) (t := 40) ?hr ?_; (case hd => rfl); (case hg => rfl); (case hr => first | (go_simp; done)  | (go_simp; rfl)); intro gb309 hg w4 hbox hb; have BK309 := Aside0.mk hbox; have GW309 := Aside0.mk ((by rw [hg]; exact (below_size (by first | (with_reducible exact HB.out)  | (repeat (with_reducible first | exact HB.out  | apply below_alloc  | apply pw_below_drewN  | apply below_drew1))  | (repeat (first | (with_reducible first | exact HB.out  | apply below_alloc  | apply pw_below_drewN  | apply below_drew1)  | exact HB.out)))) : w.heap.size ≤ gb309)); have GE309 := Aside0.mk ((by rw [hg]; exact (below_size (by first | (with_reducible exact HB.out)  | (repeat (with_reducible first | exact HB.out  | apply below_alloc  | apply pw_below_drewN  | apply below_drew1))  | (repeat (first | (with_reducible first | exact HB.out  | apply below_alloc  | apply pw_below_drewN  | apply below_drew1)  | exact HB.out)))) : w.heap.size ≤ gb309)); replace HB := Aside0.mk (below_step (by first | (with_reducible exact HB.out)  | (repeat (with_reducible first | exact HB.out  | apply below_alloc  | apply pw_below_drewN  | apply below_drew1))  | (repeat (first | (with_reducible first | exact HB.out  | apply below_alloc  | apply pw_below_drewN  | apply below_drew1)  | exact HB.out))) hb); clear hb hbox hg)  | ((with_reducible refine gate_dst (N := 3) rfl ?_); refine box_event ?hg (N := 3) ?hd (cs := #[.string a1_0, .string a1_1, .int .i64 a1_2, .bool a1_3, .string a1_4, .slice A1_5 l1_5.length c1_5]) (t := 43) ?hr ?_; (case hd => rfl); (case hg => rfl); (case hr => first | (go_simp; done)  | (go_simp; rfl)); intro gb310 hg w5 hbox hb; have BK310 := Aside0.mk hbox; have GW310 := Aside0.mk ((by rw [hg]; exact (below_size (by first | (with_reducible exact HB.out)  | (repeat (with_reducible first | exact HB.out  | apply below_alloc  | apply pw_below_drewN  | apply below_drew1  | refine below_set ?_ GE309.out))  | (repeat (first | (with_reducible first | exact HB.out  | apply below_alloc  | apply pw_below_drewN  | apply below_drew1  | refine below_set ?_ GE309.out)  | exact HB.out)))) : w.heap.size ≤ gb310)); have GE310 := Aside0.mk ((by rw [hg]; exact (below_size (by first | (with_reducible exact HB.out)  | (repeat (with_reducible first | exact HB.out  | apply below_alloc  | apply pw_below_drewN  | apply below_drew1  | refine below_set ?_ GE309.out))  | (repeat (first | (with_reducible first | exact HB.out  | apply below_alloc  | apply pw_below_drewN  | apply below_drew1  | refine below_set ?_ GE309.out)  | exact HB.out)))) : w.heap.size ≤ gb310)); replace HB := Aside0.mk (below_step (by first | (with_reducible exact HB.out)  | (repeat (with_reducible first | exact HB.out  | apply below_alloc  | apply pw_below_drewN  | apply below_drew1  | refine below_set ?_ GE309.out))  | (repeat (first | (with_reducible first | exact HB.out  | apply below_alloc  | apply pw_below_drewN  | apply below_drew1  | refine below_set ?_ GE309.out)  | exact HB.out))) hb); have NB309_310 := Aside0.mk ((by rw [hg]; exact Nat.ne_of_lt (blk_lt (by first | (with_reducible exact BK309.out)  | ((with_reducible repeat (first | refine blk_drewN ?_ _  | refine blk_drew ?_  | refine blk_alloc ?_ _)); exact BK309.out))) : gb309 ≠ gb310)); have NB310_309 := Aside0.mk ((by rw [hg]; exact Nat.ne_of_gt (blk_lt (by first | (with_reducible exact BK309.out)  | ((with_reducible repeat (first | refine blk_drewN ?_ _  | refine blk_drew ?_  | refine blk_alloc ?_ _)); exact BK309.out))) : gb310 ≠ gb309)); replace BK309 := Aside0.mk (blk_below (by first | (with_reducible exact BK309.out)  | ((with_reducible repeat (first | refine blk_drewN ?_ _  | refine blk_drew ?_  | refine blk_alloc ?_ _)); exact BK309.out)) hb); clear hb hbox hg)); go_upto_region 1 with (first | ((with_reducible refine gate_dst (N := 2) rfl ?_); refine box_event ?hg (N := 2) ?hd (cs := #[.string a0_0, .string a0_1, .int .i64 a0_2, .bool a0_3, .string a0_4, .slice A0_5 l0_5.length c0_5]) (t := 40) ?hr ?_; (case hd => rfl); (case hg => rfl); (case hr => first | (go_simp; done)  | (go_simp; rfl)); intro gb309 hg w4 hbox hb; have BK309 := Aside0.mk hbox; have GW309 := Aside0.mk ((by rw [hg]; exact (below_size (by first | (with_reducible exact HB.out)  | (repeat (with_reducible first | exact HB.out  | apply below_alloc  | apply pw_below_drewN  | apply below_drew1))  | (repeat (first | (with_reducible first | exact HB.out  | apply below_alloc  | apply pw_below_drewN  | apply below_drew1)  | exact HB.out)))) : w.heap.size ≤ gb309)); have GE309 := Aside0.mk ((by rw [hg]; exact (below_size (by first | (with_reducible exact HB.out)  | (repeat (with_reducible first | exact HB.out  | apply below_alloc  | apply pw_below_drewN  | apply below_drew1))  | (repeat (first | (with_reducible first | exact HB.out  | apply below_alloc  | apply pw_below_drewN  | apply below_drew1)  | exact HB.out)))) : w.heap.size ≤ gb309)); replace HB := Aside0.mk (below_step (by first | (with_reducible exact HB.out)  | (repeat (with_reducible first | exact HB.out  | apply below_alloc  | apply pw_below_drewN  | apply below_drew1))  | (repeat (first | (with_reducible first | exact HB.out  | apply below_alloc  | apply pw_below_drewN  | apply below_drew1)  | exact HB.out))) hb); clear hb hbox hg)  | ((with_reducible refine gate_dst (N := 3) rfl ?_); refine box_event ?hg (N := 3) ?hd (cs := #[.string a1_0, .string a1_1, .int .i64 a1_2, .bool a1_3, .string a1_4, .slice A1_5 l1_5.length c1_5]) (t := 43) ?hr ?_; (case hd => rfl); (case hg => rfl); (case hr => first | (go_simp; done)  | (go_simp; rfl)); intro gb310 hg w5 hbox hb; have BK310 := Aside0.mk hbox; have GW310 := Aside0.mk ((by rw [hg]; exact (below_size (by first | (with_reducible exact HB.out)  | (repeat (with_reducible first | exact HB.out  | apply below_alloc  | apply pw_below_drewN  | apply below_drew1  | refine below_set ?_ GE309.out))  | (repeat (first | (with_reducible first | exact HB.out  | apply below_alloc  | apply pw_below_drewN  | apply below_drew1  | refine below_set ?_ GE309.out)  | exact HB.out)))) : w.heap.size ≤ gb310)); have GE310 := Aside0.mk ((by rw [hg]; exact (below_size (by first | (with_reducible exact HB.out)  | (repeat (with_reducible first | exact HB.out  | apply below_alloc  | apply pw_below_drewN  | apply below_drew1  | refine below_set ?_ GE309.out))  | (repeat (first | (with_reducible first | exact HB.out  | apply below_alloc  | apply pw_below_drewN  | apply below_drew1  | refine below_set ?_ GE309.out)  | exact HB.out)))) : w.heap.size ≤ gb310)); replace HB := Aside0.mk (below_step (by first | (with_reducible exact HB.out)  | (repeat (with_reducible first | exact HB.out  | apply below_alloc  | apply pw_below_drewN  | apply below_drew1  | refine below_set ?_ GE309.out))  | (repeat (first | (with_reducible first | exact HB.out  | apply below_alloc  | apply pw_below_drewN  | apply below_drew1  | refine below_set ?_ GE309.out)  | exact HB.out))) hb); have NB309_310 := Aside0.mk ((by rw [hg]; exact Nat.ne_of_lt (blk_lt (by first | (with_reducible exact BK309.out)  | ((with_reducible repeat (first | refine blk_drewN ?_ _  | refine blk_drew ?_  | refine blk_alloc ?_ _)); exact BK309.out))) : gb309 ≠ gb310)); have NB310_309 := Aside0.mk ((by rw [hg]; exact Nat.ne_of_gt (blk_lt (by first | (with_reducible exact BK309.out)  | ((with_reducible repeat (first | refine blk_drewN ?_ _  | refine blk_drew ?_  | refine blk_alloc ?_ _)); exact BK309.out))) : gb310 ≠ gb309)); replace BK309 := Aside0.mk (blk_below (by first | (with_reducible exact BK309.out)  | ((with_reducible repeat (first | refine blk_drewN ?_ _  | refine blk_drew ?_  | refine blk_alloc ?_ _)); exact BK309.out)) hb); clear hb hbox hg)))
 go_cut [47] (fun v47 wc => ∃ (kq : Nat) (x47_2 : Bool), v47 = .bool x47_2 ∧ Aside0 (wicketlaw11_same.j0 kq x47_2 a0_0 a0_1 a0_2 a0_3 a0_4 l0_5 a1_0 a1_1 a1_2 a1_3 a1_4 l1_5 = some r) ∧ Aside0 (kq ≤ k) ∧ Aside0 (wc.heap[gb309]? = some (.cells #[.string a0_0, .string a0_1, .int .i64 a0_2, .bool a0_3, .string a0_4, (.slice A0_5 l0_5.length c0_5)] 40 (0, 0))) ∧ Aside0 (wc.heap[gb310]? = some (.cells #[.string a1_0, .string a1_1, .int .i64 a1_2, .bool a1_3, .string a1_4, (.slice A1_5 l1_5.length c1_5)] 43 (0, 0))) ∧ Aside0 (Below w.heap.size w wc))
 case first =>
  have H := HC3.out
  clear HC3
  by_cases c6 : a0_0.toList = a1_0.toList
  · rw [if_pos c6] at H
    have c6b0 : (a0_0.toList == a1_0.toList) = true := beq_iff_eq.mpr c6
    have c6b1 : (a0_0.toList != a1_0.toList) = false := bne_eq_false_iff_eq.mpr c6
    clear c6
    by_cases c7 : a0_1.toList = a1_1.toList
    · rw [if_pos c7] at H
      have c7b0 : (a0_1.toList == a1_1.toList) = true := beq_iff_eq.mpr c7
      have c7b1 : (a0_1.toList != a1_1.toList) = false := bne_eq_false_iff_eq.mpr c7
      clear c7
      by_cases c8 : a0_2 = a1_2
      · rw [if_pos c8] at H
        have c8b0 : (a0_2 == a1_2) = true := beq_iff_eq.mpr c8
        have c8b1 : (a0_2 != a1_2) = false := bne_eq_false_iff_eq.mpr c8
        clear c8
        by_cases c9 : (a0_3 != a1_3) = true
        · rw [if_pos c9] at H
          have c9b0 : (a0_3 != a1_3) = true := c9
          (try (have c9b1 : decide (a0_3 = a1_3) = false := by simpa using c9))
          (try (have c9b2 : (a0_3 == a1_3) = false := by simpa using c9))
          (try (have c9b3 : ¬ (a0_3 = a1_3) := by simpa using c9))
          clear c9
          have H' := Aside0.mk H
          clear H
          have hnb10 := NB309_310.out
          have hnc10 := NB310_309.out
          obtain ⟨hcz11_0, hcz11_1, hcz11_2, hcz11_3, hcz11_4, hcz11_5, hfz11_0, hfz11_1, hfz11_2, hfz11_3, hfz11_4, hfz11_5⟩ := cz6_ BK309.out
          obtain ⟨hcz12_0, hcz12_1, hcz12_2, hcz12_3, hcz12_4, hcz12_5, hfz12_0, hfz12_1, hfz12_2, hfz12_3, hfz12_4, hfz12_5⟩ := cz6_ BK310.out
          go_wp2
          repeat (go_quiet (fail); try go_wp2)
          go_meet
          case rel => exact ⟨_, (true), rfl, H', ⟨by (omega)⟩, ⟨BK309.out⟩, ⟨BK310.out⟩, ⟨HB.out⟩⟩
        · rw [if_neg c9] at H
          have c9b0 : (a0_3 != a1_3) = false := by simpa using c9
          (try (have c9b1 : decide (a0_3 = a1_3) = true := by simpa using c9))
          (try (have c9b2 : (a0_3 == a1_3) = true := by simpa using c9))
          clear c9
          by_cases c13 : a0_4.toList = a1_4.toList
          · rw [if_pos c13] at H
            have c13b0 : (a0_4.toList == a1_4.toList) = true := beq_iff_eq.mpr c13
            have c13b1 : (a0_4.toList != a1_4.toList) = false := bne_eq_false_iff_eq.mpr c13
            clear c13
            have H' := Aside0.mk H
            clear H
            have hnb14 := NB309_310.out
            have hnc14 := NB310_309.out
            obtain ⟨hcz15_0, hcz15_1, hcz15_2, hcz15_3, hcz15_4, hcz15_5, hfz15_0, hfz15_1, hfz15_2, hfz15_3, hfz15_4, hfz15_5⟩ := cz6_ BK309.out
            obtain ⟨hcz16_0, hcz16_1, hcz16_2, hcz16_3, hcz16_4, hcz16_5, hfz16_0, hfz16_1, hfz16_2, hfz16_3, hfz16_4, hfz16_5⟩ := cz6_ BK310.out
            go_wp2
            repeat (go_quiet (fail); try go_wp2)
            go_meet
            case rel => exact ⟨_, (((l0_5.length : Int) != (l1_5.length : Int))), rfl, H', ⟨by (omega)⟩, ⟨BK309.out⟩, ⟨BK310.out⟩, ⟨HB.out⟩⟩
          · rw [if_neg c13] at H
            have c13b0 : (a0_4.toList == a1_4.toList) = false := beq_eq_false_iff_ne.mpr c13
            have c13b1 : (a0_4.toList != a1_4.toList) = true := bne_iff_ne.mpr c13
            have H' := Aside0.mk H
            clear H
            have hnb17 := NB309_310.out
            have hnc17 := NB310_309.out
            obtain ⟨hcz18_0, hcz18_1, hcz18_2, hcz18_3, hcz18_4, hcz18_5, hfz18_0, hfz18_1, hfz18_2, hfz18_3, hfz18_4, hfz18_5⟩ := cz6_ BK309.out
            obtain ⟨hcz19_0, hcz19_1, hcz19_2, hcz19_3, hcz19_4, hcz19_5, hfz19_0, hfz19_1, hfz19_2, hfz19_3, hfz19_4, hfz19_5⟩ := cz6_ BK310.out
            go_wp2
            repeat (go_quiet (fail); try go_wp2)
            go_meet
            case rel => exact ⟨_, (true), rfl, H', ⟨by (omega)⟩, ⟨BK309.out⟩, ⟨BK310.out⟩, ⟨HB.out⟩⟩
      · rw [if_neg c8] at H
        have c8b0 : (a0_2 == a1_2) = false := beq_eq_false_iff_ne.mpr c8
        have c8b1 : (a0_2 != a1_2) = true := bne_iff_ne.mpr c8
        have H' := Aside0.mk H
        clear H
        have hnb20 := NB309_310.out
        have hnc20 := NB310_309.out
        obtain ⟨hcz21_0, hcz21_1, hcz21_2, hcz21_3, hcz21_4, hcz21_5, hfz21_0, hfz21_1, hfz21_2, hfz21_3, hfz21_4, hfz21_5⟩ := cz6_ BK309.out
        obtain ⟨hcz22_0, hcz22_1, hcz22_2, hcz22_3, hcz22_4, hcz22_5, hfz22_0, hfz22_1, hfz22_2, hfz22_3, hfz22_4, hfz22_5⟩ := cz6_ BK310.out
        go_wp2
        repeat (go_quiet (fail); try go_wp2)
        go_meet
        case rel => exact ⟨_, (true), rfl, H', ⟨by (omega)⟩, ⟨BK309.out⟩, ⟨BK310.out⟩, ⟨HB.out⟩⟩
    · rw [if_neg c7] at H
      have c7b0 : (a0_1.toList == a1_1.toList) = false := beq_eq_false_iff_ne.mpr c7
      have c7b1 : (a0_1.toList != a1_1.toList) = true := bne_iff_ne.mpr c7
      have H' := Aside0.mk H
      clear H
      have hnb23 := NB309_310.out
      have hnc23 := NB310_309.out
      obtain ⟨hcz24_0, hcz24_1, hcz24_2, hcz24_3, hcz24_4, hcz24_5, hfz24_0, hfz24_1, hfz24_2, hfz24_3, hfz24_4, hfz24_5⟩ := cz6_ BK309.out
      obtain ⟨hcz25_0, hcz25_1, hcz25_2, hcz25_3, hcz25_4, hcz25_5, hfz25_0, hfz25_1, hfz25_2, hfz25_3, hfz25_4, hfz25_5⟩ := cz6_ BK310.out
      go_wp2
      repeat (go_quiet (fail); try go_wp2)
      go_meet
      case rel => exact ⟨_, (true), rfl, H', ⟨by (omega)⟩, ⟨BK309.out⟩, ⟨BK310.out⟩, ⟨HB.out⟩⟩
  · rw [if_neg c6] at H
    have c6b0 : (a0_0.toList == a1_0.toList) = false := beq_eq_false_iff_ne.mpr c6
    have c6b1 : (a0_0.toList != a1_0.toList) = true := bne_iff_ne.mpr c6
    have H' := Aside0.mk H
    clear H
    have hnb26 := NB309_310.out
    have hnc26 := NB310_309.out
    obtain ⟨hcz27_0, hcz27_1, hcz27_2, hcz27_3, hcz27_4, hcz27_5, hfz27_0, hfz27_1, hfz27_2, hfz27_3, hfz27_4, hfz27_5⟩ := cz6_ BK309.out
    obtain ⟨hcz28_0, hcz28_1, hcz28_2, hcz28_3, hcz28_4, hcz28_5, hfz28_0, hfz28_1, hfz28_2, hfz28_3, hfz28_4, hfz28_5⟩ := cz6_ BK310.out
    go_wp2
    repeat (go_quiet (fail); try go_wp2)
    go_meet
    case rel => exact ⟨_, (true), rfl, H', ⟨by (omega)⟩, ⟨BK309.out⟩, ⟨BK310.out⟩, ⟨HB.out⟩⟩
 case rest =>
  clear HC3
  obtain ⟨kq, x47_2, rfl, HA, HJ2, BK309, BK310, HB⟩ := hcut
  cases kq with
  | zero => exact absurd HA.out (by simp [wicketlaw11_same.j0])
  | succ kj2 =>
   have H := HA.out
   clear HA
   simp only [wicketlaw11_same.j0] at H
   by_cases c29 : x47_2 = true
   · subst c29
     have H1 : (some false) = some r := by rw [if_pos rfl] at H; exact H
     clear H
     have H := H1
     clear H1
     obtain rfl := Option.some.inj H
     go_wp2
     repeat (go_quiet (fail); try go_wp2)
     go_ret
     exact ⟨by (rfl), by (with_reducible exact HB.out)⟩
   · replace c29 := Bool.eq_false_iff.mpr c29
     subst c29
     have H1 : (wicketlaw11_same.l0 kj2 0 a0_0 a0_1 a0_2 a0_3 a0_4 l0_5 a1_0 a1_1 a1_2 a1_3 a1_4 l1_5) = some r := by rw [if_neg (show ¬ (false = true) by decide)] at H; exact H
     clear H
     have H := H1
     clear H1
     have H' := Aside0.mk H
     clear H
     go_wp2
     repeat (go_quiet (fail); try go_wp2)
     go_loopg [5] kj2 (fun kq v5 w' => ∃ (x5_2 : Int), v5 = .int .i64 x5_2 ∧ Aside0 (wicketlaw11_same.l0 kq x5_2 a0_0 a0_1 a0_2 a0_3 a0_4 l0_5 a1_0 a1_1 a1_2 a1_3 a1_4 l1_5 = some r) ∧ Aside0 (kq ≤ kj2) ∧ Aside0 (w'.heap[gb309]? = some (.cells #[.string a0_0, .string a0_1, .int .i64 a0_2, .bool a0_3, .string a0_4, (.slice A0_5 l0_5.length c0_5)] 40 (0, 0))) ∧ Aside0 (w'.heap[gb310]? = some (.cells #[.string a1_0, .string a1_1, .int .i64 a1_2, .bool a1_3, .string a1_4, (.slice A1_5 l1_5.length c1_5)] 43 (0, 0))) ∧ Aside0 (Below w.heap.size w w'))
     case atStart => exact ⟨(0), rfl, H', ⟨Nat.le_refl _⟩, ⟨BK309.out⟩, ⟨BK310.out⟩, ⟨HB.out⟩⟩
     case round =>
      clear H'
      obtain ⟨x5_2, rfl, HA, HK2, BK309, BK310, HB⟩ := hrel
      cases gk with
      | zero => exact absurd HA.out (by simp [wicketlaw11_same.l0])
      | succ k2 =>
       have H := HA.out
       clear HA
       simp only [wicketlaw11_same.l0] at H
       by_cases c30 : x5_2 < (l0_5.length : Int)
       · rw [if_pos c30] at H
         have c30b0 : decide (x5_2 < (l0_5.length : Int)) = true := decide_eq_true c30
         clear c30
         by_cases c31 : 0 ≤ x5_2
         · rw [if_pos c31] at H
           have c31b0 : decide (0 ≤ x5_2) = true := decide_eq_true c31
           clear c31
           by_cases c32 : x5_2 < (l1_5.length : Int)
           · rw [if_pos c32] at H
             have c32b0 : decide (x5_2 < (l1_5.length : Int)) = true := decide_eq_true c32
             clear c32
             by_cases c33 : (rdOf ByteArray.empty l0_5 x5_2).toList = (rdOf ByteArray.empty l1_5 x5_2).toList
             · rw [if_pos c33] at H
               have c33b0 : ((rdOf ByteArray.empty l0_5 x5_2).toList == (rdOf ByteArray.empty l1_5 x5_2).toList) = true := beq_iff_eq.mpr c33
               have c33b1 : ((rdOf ByteArray.empty l0_5 x5_2).toList != (rdOf ByteArray.empty l1_5 x5_2).toList) = false := bne_eq_false_iff_eq.mpr c33
               clear c33
               have H' := Aside0.mk H
               clear H
               have hnb34 := NB309_310.out
               have hnc34 := NB310_309.out
               obtain ⟨hcz35_0, hcz35_1, hcz35_2, hcz35_3, hcz35_4, hcz35_5, hfz35_0, hfz35_1, hfz35_2, hfz35_3, hfz35_4, hfz35_5⟩ := cz6_ BK309.out
               have p311 : 0 ≤ (x5_2 : Int) := of_decide_eq_true (by assumption)
               have q311 : x5_2 < (l0_5.length : Int) := of_decide_eq_true (by assumption)
               obtain ⟨ad311, e311, hx311_0⟩ := Kd.at_string HR0_5.out x5_2 p311 q311
               cases e311
               replace hx311_0 := (HB.out.cell (World.block_lt_of_cell? w _ hx311_0)).trans hx311_0
               replace p311 := eq_true p311
               replace q311 := eq_true q311
               obtain ⟨hcz36_0, hcz36_1, hcz36_2, hcz36_3, hcz36_4, hcz36_5, hfz36_0, hfz36_1, hfz36_2, hfz36_3, hfz36_4, hfz36_5⟩ := cz6_ BK310.out
               have p312 : 0 ≤ (x5_2 : Int) := of_decide_eq_true (by assumption)
               have q312 : x5_2 < (l1_5.length : Int) := of_decide_eq_true (by assumption)
               obtain ⟨ad312, e312, hx312_0⟩ := Kd.at_string HR1_5.out x5_2 p312 q312
               cases e312
               replace hx312_0 := (HB.out.cell (World.block_lt_of_cell? w _ hx312_0)).trans hx312_0
               replace p312 := eq_true p312
               replace q312 := eq_true q312
               go_wp2
               repeat (go_quiet (fail); try go_wp2)
               go_roundg k2
               case measure => have := HJ2.out; have := HK2.out; omega
               case rel => exact ⟨(wrap64 (x5_2 + 1)), rfl, H', ⟨by have := HJ2.out; have := HK2.out; omega⟩, ⟨by ((with_reducible repeat (refine blk_drewN ?_ _)); exact BK309.out)⟩, ⟨by ((with_reducible repeat (refine blk_drewN ?_ _)); exact BK310.out)⟩, ⟨by (repeat (with_reducible first | exact HB.out | apply pw_below_drewN))⟩⟩
             · rw [if_neg c33] at H
               have c33b0 : ((rdOf ByteArray.empty l0_5 x5_2).toList == (rdOf ByteArray.empty l1_5 x5_2).toList) = false := beq_eq_false_iff_ne.mpr c33
               have c33b1 : ((rdOf ByteArray.empty l0_5 x5_2).toList != (rdOf ByteArray.empty l1_5 x5_2).toList) = true := bne_iff_ne.mpr c33
               obtain rfl := Option.some.inj H
               have hnb37 := NB309_310.out
               have hnc37 := NB310_309.out
               obtain ⟨hcz38_0, hcz38_1, hcz38_2, hcz38_3, hcz38_4, hcz38_5, hfz38_0, hfz38_1, hfz38_2, hfz38_3, hfz38_4, hfz38_5⟩ := cz6_ BK309.out
               have p311 : 0 ≤ (x5_2 : Int) := of_decide_eq_true (by assumption)
               have q311 : x5_2 < (l0_5.length : Int) := of_decide_eq_true (by assumption)
               obtain ⟨ad311, e311, hx311_0⟩ := Kd.at_string HR0_5.out x5_2 p311 q311
               cases e311
               replace hx311_0 := (HB.out.cell (World.block_lt_of_cell? w _ hx311_0)).trans hx311_0
               replace p311 := eq_true p311
               replace q311 := eq_true q311
               obtain ⟨hcz39_0, hcz39_1, hcz39_2, hcz39_3, hcz39_4, hcz39_5, hfz39_0, hfz39_1, hfz39_2, hfz39_3, hfz39_4, hfz39_5⟩ := cz6_ BK310.out
               have p312 : 0 ≤ (x5_2 : Int) := of_decide_eq_true (by assumption)
               have q312 : x5_2 < (l1_5.length : Int) := of_decide_eq_true (by assumption)
               obtain ⟨ad312, e312, hx312_0⟩ := Kd.at_string HR1_5.out x5_2 p312 q312
               cases e312
               replace hx312_0 := (HB.out.cell (World.block_lt_of_cell? w _ hx312_0)).trans hx312_0
               replace p312 := eq_true p312
               replace q312 := eq_true q312
               go_wp2
               repeat (go_quiet (fail); try go_wp2)
               go_ret
               exact ⟨by (rfl), by (repeat (with_reducible first | exact HB.out | apply pw_below_drewN))⟩
           · rw [if_neg c32] at H
             exact absurd H (by simp)
         · rw [if_neg c31] at H
           exact absurd H (by simp)
       · rw [if_neg c30] at H
         have c30b0 : decide (x5_2 < (l0_5.length : Int)) = false := decide_eq_false c30
         clear c30
         obtain rfl := Option.some.inj H
         have hnb40 := NB309_310.out
         have hnc40 := NB310_309.out
         obtain ⟨hcz41_0, hcz41_1, hcz41_2, hcz41_3, hcz41_4, hcz41_5, hfz41_0, hfz41_1, hfz41_2, hfz41_3, hfz41_4, hfz41_5⟩ := cz6_ BK309.out
         go_wp2
         repeat (go_quiet (fail); try go_wp2)
         go_ret
         exact ⟨by (rfl), by (with_reducible exact HB.out)⟩
end Go.Proofs.YtmimipgmhgalaaaGreatDoor.PAll
end
section
namespace Go.Proofs.YtmimipgmhgalaaaGreatDoor.PAll
open Go.RowKit Go.Proofs.YtmimipgmhgalaaaGreatDoorW.PrintWords Go.Proofs.YtmimipgmhgalaaaGreatDoorW.PrintLast Go.Proofs.YtmimipgmhgalaaaGreatDoorW.PrintMore
attribute [local go_sem] max2_int min2_int max_two min_two max_three min_three max_four min_four
set_option linter.unusedVariables false
set_option linter.unusedSimpArgs false
def wicketlaw11_list.T6 : Bool × List (List Nat × List Nat) := (true, [([], []), ([], []), ([0, 1], [0, 1]), ([2], [2]), ([], []), ([], []), ([4, 5], [4, 5]), ([6], [6]), ([3, 7], [3, 7]), ([8], [8])])
def wicketlaw11_list.B6 : List Nat := [0, 0, 3, 7, 0, 0, 48, 112, 255, 511]
theorem wicketlaw11_list.bits6 : waitsOk wicketlaw11_list.T6.2 wicketlaw11_list.B6 = true := by kernel_rfl
end Go.Proofs.YtmimipgmhgalaaaGreatDoor.PAll
end
section
namespace Go.Proofs.YtmimipgmhgalaaaGreatDoor.PAll
open Go.RowKit Go.Proofs.YtmimipgmhgalaaaGreatDoorW.PrintWords Go.Proofs.YtmimipgmhgalaaaGreatDoorW.PrintLast Go.Proofs.YtmimipgmhgalaaaGreatDoorW.PrintMore
attribute [local go_sem] max2_int min2_int max_two min_two max_three min_three max_four min_four
set_option linter.unusedVariables false
set_option linter.unusedSimpArgs false
def wicketlaw11_form.T5 : Bool × List (List Nat × List Nat) := (true, [([], []), ([], []), ([], []), ([1, 2], [1, 2]), ([3], [3]), ([4], [4]), ([], []), ([], []), ([6, 7], [6, 7]), ([8], [8]), ([9], [9]), ([5, 10], [5, 10]), ([11], [11]), ([0, 12], [0, 12]), ([13, 13, 0, 1, 2, 3, 4, 5, 6, 7, 8, 9, 10, 11, 12, 13], [0, 13])])
def wicketlaw11_form.B5 : List Nat := [0, 0, 0, 6, 14, 30, 0, 0, 192, 448, 960, 2046, 4094, 8191, 16383]
theorem wicketlaw11_form.tab5 : rtab .any (opsOf Tryz.f36 5) = wicketlaw11_form.T5 := by kernel_rfl
theorem wicketlaw11_form.bits5 : waitsOk wicketlaw11_form.T5.2 wicketlaw11_form.B5 = true := by kernel_rfl
end Go.Proofs.YtmimipgmhgalaaaGreatDoor.PAll
end
section
namespace Go.Proofs.YtmimipgmhgalaaaGreatDoor.PAll
open Go.RowKit Go.Proofs.YtmimipgmhgalaaaGreatDoorW.PrintWords Go.Proofs.YtmimipgmhgalaaaGreatDoorW.PrintLast Go.Proofs.YtmimipgmhgalaaaGreatDoorW.PrintMore
attribute [local go_sem] max2_int min2_int max_two min_two max_three min_three max_four min_four
set_option linter.unusedVariables false
set_option linter.unusedSimpArgs false
mutual
def wicketref03_Within.l0 : Nat → List ByteArray → List ByteArray → Int → Option (Bool)
 | 0, _, _, _ => none
 | k + 1, x0, x1, x5 => if x5 < (x0.length : Int) then (wicketref03_Within.l1 k x0 x1 x5 false 0) else (some true)
def wicketref03_Within.l1 : Nat → List ByteArray → List ByteArray → Int → Bool → Int → Option (Bool)
 | 0, _, _, _, _, _ => none
 | k + 1, x0, x1, x5, x6, x7 => if x7 < (x1.length : Int) then (if x6 = true then (wicketref03_Within.l1 k x0 x1 x5 true (wrap64 (x7 + 1))) else (if 0 ≤ x7 then (if 0 ≤ x5 then (if x5 < (x0.length : Int) then (wicketref03_Within.l1 k x0 x1 x5 ((rdOf ByteArray.empty x1 x7).toList == (rdOf ByteArray.empty x0 x5).toList) (wrap64 (x7 + 1))) else (none)) else (none)) else (none))) else (if x6 = true then (wicketref03_Within.l0 k x0 x1 (wrap64 (x5 + 1))) else (some false))
end
def wicketlaw11_num.f (a0 : Int) : Option (Int) := some a0
end Go.Proofs.YtmimipgmhgalaaaGreatDoor.PAll
end
section
namespace Go.Proofs.YtmimipgmhgalaaaGreatDoor.PAll
open Go.RowKit Go.Proofs.YtmimipgmhgalaaaGreatDoorW.PrintWords Go.Proofs.YtmimipgmhgalaaaGreatDoorW.PrintLast Go.Proofs.YtmimipgmhgalaaaGreatDoorW.PrintMore
attribute [local go_sem] max2_int min2_int max_two min_two max_three min_three max_four min_four
set_option linter.unusedVariables false
set_option linter.unusedSimpArgs false
def wicketref11_Find.l0 : Nat → List (S43) → ByteArray → Int → Option (ByteArray × ByteArray × Int × Bool × ByteArray × List ByteArray × Bool)
 | 0, _, _, _ => none
 | k + 1, x0, x1, x6 => if x6 < (x0.length : Int) then (if 0 ≤ x6 then (if ((rd_T43 x0 x6).f0).toList = x1.toList then (some ((rd_T43 x0 x6).f0, (rd_T43 x0 x6).f1, (rd_T43 x0 x6).f2, (rd_T43 x0 x6).f3, (rd_T43 x0 x6).f4, (rd_T43 x0 x6).f5, true)) else (wicketref11_Find.l0 k x0 x1 (wrap64 (x6 + 1)))) else (none)) else (some ((⟨#[]⟩ : ByteArray), (⟨#[]⟩ : ByteArray), 0, false, (⟨#[]⟩ : ByteArray), ([] : List ByteArray), false))
def wicketref11_Find.f (k : Nat) (l0 : List (S43)) (a1 : ByteArray) : Option (ByteArray × ByteArray × Int × Bool × ByteArray × List ByteArray × Bool) := wicketref11_Find.l0 k l0 a1 0
set_option maxHeartbeats 8000000 in
set_option maxRecDepth 100000 in
theorem wicketref11_Find.calls (k : Nat) (P0_ : Nat → Prop) (A0 : Option Addr) (c0 : Nat) (l0 : List (S43)) (a1 : ByteArray) (r1 : ByteArray) (r2 : ByteArray) (r3 : Int) (r4 : Bool) (r5 : ByteArray) (r6 : List ByteArray) (r7 : Bool) (w : World) (hs0 : Kd.V k43 43 w w.heap.size (fun k_ => P0_ k_) (.slice A0 l0.length c0) l0) (h : wicketref11_Find.f k l0 a1 = some (r1, r2, r3, r4, r5, r6, r7)) :
 Calls Tryz.prog 30 #[.slice A0 l0.length c0, .string a1] w fun e w' => ∃ v5_ : Value, e = .returned (.tuple #[.agg #[.string r1, .string r2, .int .i64 r3, .bool r4, .string r5, v5_], .bool r7]) ∧ Kd.V Kd.string 9 w' w.heap.size (fun k_ => (P0_ k_ ∨ w.heap.size ≤ k_)) v5_ r6 ∧ Below w.heap.size w w' := by
 have hu43 := Tryz.underlying43
 have HO0 := Aside0.mk (show Kd.V k43 43 w w.heap.size (fun k_ => (P0_ k_ ∨ w.heap.size ≤ k_)) (.slice A0 l0.length c0) l0 from Kd.V_mono hs0 (fun k_ hk => .inl hk))
 have HB := Aside0.mk (Below.refl w.heap.size w)
 have H : (wicketref11_Find.l0 k l0 a1 0) = some (r1, r2, r3, r4, r5, r6, r7) := h
 clear h
 have H' := Aside0.mk H
 clear H
 go_enter Tryz.func30, Tryz.ntmps30
 go_wp2_with (first | ((with_reducible refine gate_dst (N := 4) rfl ?_); refine box_event (by rfl) (N := 4) (by rfl) (cs := #[.string (⟨#[]⟩ : ByteArray), .string (⟨#[]⟩ : ByteArray), .int .i64 0, .bool false, .string (⟨#[]⟩ : ByteArray), .slice none 0 0]) (t := 43) (by go_simp) ?_; intro gb406 hg w3 hbox hb; replace HO0 := Aside0.mk (Kd.V_below (Kd.V_elderB HO0.out gb406 (Nat.le_of_eq hg.symm)) hb); have BK406 := Aside0.mk hbox; have GW406 := Aside0.mk ((by rw [hg]; exact (below_size HB.out) : w.heap.size ≤ gb406)); have GE406 := Aside0.mk ((by rw [hg]; exact (below_size HB.out) : w.heap.size ≤ gb406)); replace HB := Aside0.mk (below_step HB.out hb); clear hb hbox hg))
 go_loopg [6] k (fun kq v6 w' => ∃ (x6_1 : Int) (x407000_1 : ByteArray) (x407001_1 : ByteArray) (x407002_1 : Int) (x407003_1 : Bool) (x407004_1 : ByteArray), v6 = .int .i64 x6_1 ∧ Aside0 (wicketref11_Find.l0 kq l0 a1 x6_1 = some (r1, r2, r3, r4, r5, r6, r7)) ∧ Aside0 (kq ≤ k) ∧ Aside0 (Kd.V k43 43 w' w.heap.size (fun k_ => (P0_ k_ ∨ w.heap.size ≤ k_) ∧ k_ ≠ gb406) (.slice A0 l0.length c0) l0) ∧ Aside0 (w'.heap[gb406]? = some (.cells #[.string x407000_1, .string x407001_1, .int .i64 x407002_1, .bool x407003_1, .string x407004_1, (.slice none 0 0)] 43 (0, 0))) ∧ Aside0 (Below w.heap.size w w'))
 case atStart => exact ⟨(0), ((⟨#[]⟩ : ByteArray)), ((⟨#[]⟩ : ByteArray)), (0), (false), ((⟨#[]⟩ : ByteArray)), rfl, H', ⟨Nat.le_refl _⟩, ⟨HO0.out⟩, ⟨BK406.out⟩, ⟨HB.out⟩⟩
 case round =>
  clear H'
  obtain ⟨x6_1, x407000_1, x407001_1, x407002_1, x407003_1, x407004_1, rfl, HA, HK1, HO_0, BK406, HB⟩ := hrel
  cases gk with
  | zero => exact absurd HA.out (by simp [wicketref11_Find.l0])
  | succ k1 =>
   have H := HA.out
   clear HA
   simp only [wicketref11_Find.l0] at H
   by_cases c4 : x6_1 < (l0.length : Int)
   · rw [if_pos c4] at H
     have c4b0 : decide (x6_1 < (l0.length : Int)) = true := decide_eq_true c4
     clear c4
     by_cases c5 : 0 ≤ x6_1
     · rw [if_pos c5] at H
       have c5b0 : decide (0 ≤ x6_1) = true := decide_eq_true c5
       clear c5
       by_cases c6 : ((rd_T43 l0 x6_1).f0).toList = a1.toList
       · rw [if_pos c6] at H
         have c6b0 : (((rd_T43 l0 x6_1).f0).toList == a1.toList) = true := beq_iff_eq.mpr c6
         have c6b1 : (((rd_T43 l0 x6_1).f0).toList != a1.toList) = false := bne_eq_false_iff_eq.mpr c6
         clear c6
         simp only [Option.some.injEq, Prod.mk.injEq] at H
         obtain ⟨rfl, rfl, rfl, rfl, rfl, rfl, rfl⟩ := H
         have p407 : 0 ≤ (x6_1 : Int) := of_decide_eq_true (by assumption)
         have q407 : x6_1 < (l0.length : Int) := of_decide_eq_true (by assumption)
         obtain ⟨ad407, A407_5, c407_5, e407, hx407_0, hx407_1, hx407_2, hx407_3, hx407_4, hx407_5, hl407_5, hi407_5⟩ := at_T43 (Kd.V_reads' HO_0.out).2.2 x6_1 p407 q407
         cases e407
         obtain ⟨ce407, hce407, hMe407, hcc407⟩ := Kd.V_get HO_0.out z43 x6_1 p407 (by exact q407)
         obtain ⟨ua407_5, uc407_5, rfl, ul407_5, ge407_5⟩ := k43_openF hMe407
         have hv407_5 := hcc407 5 _ rfl
         rw [add_field _ _ 5 (by omega)] at hv407_5
         replace hv407_5 := Option.some.inj (hv407_5.symm.trans hx407_5)
         injection hv407_5 with hva_ hvn_ hvc_
         rw [hva_] at ge407_5
         rw [hvc_] at ul407_5
         have HL407_5 := Aside0.mk (show Kd.V Kd.string 9 _ w.heap.size _ _ ((rd_T43 l0 x6_1).f5) from Kd.V_mk ul407_5 ge407_5)
         clear hva_ hvn_ hvc_ ge407_5 ul407_5 hcc407 hce407
         have HR407_5 := Aside0.mk hi407_5
         have HC407_5 := Aside0.mk hl407_5
         clear hi407_5 hl407_5
         replace p407 := eq_true p407
         replace q407 := eq_true q407
         have p408 : 0 ≤ (x6_1 : Int) := of_decide_eq_true (by assumption)
         have q408 : x6_1 < (l0.length : Int) := of_decide_eq_true (by assumption)
         obtain ⟨ad408, A408_5, c408_5, e408, hx408_0, hx408_1, hx408_2, hx408_3, hx408_4, hx408_5, hl408_5, hi408_5⟩ := at_T43 (Kd.V_reads' HO_0.out).2.2 x6_1 p408 q408
         obtain rfl : ad407 = ad408 := (by injection e408)
         obtain ⟨ce408, hce408, hMe408, hcc408⟩ := Kd.V_get HO_0.out z43 x6_1 p408 (by exact q408)
         obtain ⟨ua408_5, uc408_5, rfl, ul408_5, ge408_5⟩ := k43_openF hMe408
         have hv408_5 := hcc408 5 _ rfl
         rw [add_field _ _ 5 (by omega)] at hv408_5
         replace hv408_5 := Option.some.inj (hv408_5.symm.trans hx408_5)
         injection hv408_5 with hva_ hvn_ hvc_
         rw [hva_] at ge408_5
         rw [hvc_] at ul408_5
         have HL408_5 := Aside0.mk (show Kd.V Kd.string 9 _ w.heap.size _ _ ((rd_T43 l0 x6_1).f5) from Kd.V_mk ul408_5 ge408_5)
         clear hva_ hvn_ hvc_ ge408_5 ul408_5 hcc408 hce408
         have HR408_5 := Aside0.mk hi408_5
         have HC408_5 := Aside0.mk hl408_5
         clear hi408_5 hl408_5
         replace p408 := eq_true p408
         replace q408 := eq_true q408
         have ea_ := Option.some.inj (hx407_5.symm.trans hx408_5)
         injection ea_ with ea_ en_ ec_
         subst ea_
         subst ec_
         clear en_
         obtain ⟨hcz7_0, hcz7_1, hcz7_2, hcz7_3, hcz7_4, hcz7_5, hfz7_0, hfz7_1, hfz7_2, hfz7_3, hfz7_4, hfz7_5⟩ := cz6_ BK406.out
         go_wp2
         refine bodyPost_ret (results_ct rfl _ _ gb406 43 #[.string ((rd_T43 l0 x6_1).f0), .string ((rd_T43 l0 x6_1).f1), .int .i64 ((rd_T43 l0 x6_1).f2), .bool ((rd_T43 l0 x6_1).f3), .string ((rd_T43 l0 x6_1).f4), .slice A407_5 ((rd_T43 l0 x6_1).f5).length c407_5] (0, 0) _ rfl (put6_ BK406.out _ _ _ _ _ _) Tryz.underlying43 rfl (by kernel_rfl)) rfl ?_
         exact ⟨_, rfl, by (with_reducible repeat (first | apply Kd.V_alloc  | apply Kd.V_drewN  | apply Kd.V_drew)); exact Kd.V_mono (V_far6 (Kd.V_mono HL408_5.out (fun k_ hk => (⟨hk, hk.2⟩ : _ ∧ k_ ≠ gb406))) (fun _ hk => hk.2)) (fun _ hk => hk.1.1), by (repeat (with_reducible first | exact HB.out | refine below_set ?_ GE406.out))⟩
       · rw [if_neg c6] at H
         have c6b0 : (((rd_T43 l0 x6_1).f0).toList == a1.toList) = false := beq_eq_false_iff_ne.mpr c6
         have c6b1 : (((rd_T43 l0 x6_1).f0).toList != a1.toList) = true := bne_iff_ne.mpr c6
         have H' := Aside0.mk H
         clear H
         have p407 : 0 ≤ (x6_1 : Int) := of_decide_eq_true (by assumption)
         have q407 : x6_1 < (l0.length : Int) := of_decide_eq_true (by assumption)
         obtain ⟨ad407, A407_5, c407_5, e407, hx407_0, hx407_1, hx407_2, hx407_3, hx407_4, hx407_5, hl407_5, hi407_5⟩ := at_T43 (Kd.V_reads' HO_0.out).2.2 x6_1 p407 q407
         cases e407
         obtain ⟨ce407, hce407, hMe407, hcc407⟩ := Kd.V_get HO_0.out z43 x6_1 p407 (by exact q407)
         obtain ⟨ua407_5, uc407_5, rfl, ul407_5, ge407_5⟩ := k43_openF hMe407
         have hv407_5 := hcc407 5 _ rfl
         rw [add_field _ _ 5 (by omega)] at hv407_5
         replace hv407_5 := Option.some.inj (hv407_5.symm.trans hx407_5)
         injection hv407_5 with hva_ hvn_ hvc_
         rw [hva_] at ge407_5
         rw [hvc_] at ul407_5
         have HL407_5 := Aside0.mk (show Kd.V Kd.string 9 _ w.heap.size _ _ ((rd_T43 l0 x6_1).f5) from Kd.V_mk ul407_5 ge407_5)
         clear hva_ hvn_ hvc_ ge407_5 ul407_5 hcc407 hce407
         have HR407_5 := Aside0.mk hi407_5
         have HC407_5 := Aside0.mk hl407_5
         clear hi407_5 hl407_5
         replace p407 := eq_true p407
         replace q407 := eq_true q407
         go_wp2
         go_roundg k1
         case measure => have := HK1.out; omega
         case rel => exact ⟨(wrap64 (x6_1 + 1)), (x407000_1), (x407001_1), (x407002_1), (x407003_1), (x407004_1), rfl, H', ⟨by have := HK1.out; omega⟩, ⟨HO_0.out⟩, ⟨BK406.out⟩, ⟨HB.out⟩⟩
     · rw [if_neg c5] at H
       exact absurd H (by simp)
   · rw [if_neg c4] at H
     have c4b0 : decide (x6_1 < (l0.length : Int)) = false := decide_eq_false c4
     clear c4
     simp only [Option.some.injEq, Prod.mk.injEq] at H
     obtain ⟨rfl, rfl, rfl, rfl, rfl, rfl, rfl⟩ := H
     obtain ⟨hcz8_0, hcz8_1, hcz8_2, hcz8_3, hcz8_4, hcz8_5, hfz8_0, hfz8_1, hfz8_2, hfz8_3, hfz8_4, hfz8_5⟩ := cz6_ BK406.out
     go_wp2
     refine bodyPost_ret (results_ct rfl _ _ gb406 43 #[.string (⟨#[]⟩ : ByteArray), .string (⟨#[]⟩ : ByteArray), .int .i64 0, .bool false, .string (⟨#[]⟩ : ByteArray), .slice none 0 0] (0, 0) _ rfl (put6_ BK406.out _ _ _ _ _ _) Tryz.underlying43 rfl (by kernel_rfl)) rfl ?_
     exact ⟨_, rfl, Kd.V_nil _ _ _ _ _, by (repeat (with_reducible first | exact HB.out | refine below_set ?_ GE406.out))⟩
end Go.Proofs.YtmimipgmhgalaaaGreatDoor.PAll
end
section
namespace Go.Proofs.YtmimipgmhgalaaaGreatDoor.PAll
open Go.RowKit Go.Proofs.YtmimipgmhgalaaaGreatDoorW.PrintWords Go.Proofs.YtmimipgmhgalaaaGreatDoorW.PrintLast Go.Proofs.YtmimipgmhgalaaaGreatDoorW.PrintMore
attribute [local go_sem] max2_int min2_int max_two min_two max_three min_three max_four min_four
set_option linter.unusedVariables false
set_option linter.unusedSimpArgs false
mutual
def wicketref03_digit.j0 : Nat → Int → Bool → Option (Int)
  | 0, _, _ => none
  | k + 1, x0, x3 => if x3 = true then (some ((x0 - 48) % 256)) else (if x0 ≥ 97 then (wicketref03_digit.j1 k x0 (decide (x0 ≤ 102))) else (wicketref03_digit.j1 k x0 false))
def wicketref03_digit.j1 : Nat → Int → Bool → Option (Int)
  | 0, _, _ => none
  | k + 1, x0, x13 => if x13 = true then (some (((x0 - 97) % 256) + 10)) else (if x0 ≥ 65 then (if x0 ≤ 70 then (some (((x0 - 65) % 256) + 10)) else (some (-1))) else (some (-1)))
end
def wicketref03_digit.f (k : Nat) (a0 : Int) : Option (Int) := if a0 ≥ 48 then (wicketref03_digit.j0 k a0 (decide (a0 ≤ 57))) else (wicketref03_digit.j0 k a0 false)
end Go.Proofs.YtmimipgmhgalaaaGreatDoor.PAll
end
section
namespace Go.Proofs.YtmimipgmhgalaaaGreatDoor.PAll
open Go.RowKit Go.Proofs.YtmimipgmhgalaaaGreatDoorW.PrintWords Go.Proofs.YtmimipgmhgalaaaGreatDoorW.PrintLast Go.Proofs.YtmimipgmhgalaaaGreatDoorW.PrintMore
attribute [local go_sem] max2_int min2_int max_two min_two max_three min_three max_four min_four
set_option linter.unusedVariables false
set_option linter.unusedSimpArgs false
mutual
def wicketref03_Unescape.l0 : Nat → ByteArray → List Int → Int → Option (ByteArray × Int × Int)
 | 0, _, _, _ => none
 | k + 1, x0, x5, x6 => if x6 < (x0.size : Int) then (if 0 ≤ x6 then (if (bt x0 x6) < 33 then (wicketref03_Unescape.j1 k x0 x5 x6 (bt x0 x6) true) else (wicketref03_Unescape.j1 k x0 x5 x6 (bt x0 x6) (decide ((bt x0 x6) > 126)))) else (none)) else (some (strOfNums x5, 0, 0))
def wicketref03_Unescape.j1 : Nat → ByteArray → List Int → Int → Int → Bool → Option (ByteArray × Int × Int)
 | 0, _, _, _, _, _ => none
 | k + 1, x0, x5, x6, x7, x22 => if x22 = true then (some ((⟨#[]⟩ : ByteArray), 31, x6)) else (if x7 = 43 then (if x5.length < 140737488355328 then (wicketref03_Unescape.l0 k x0 (x5 ++ [32]) (wrap64 (x6 + 1))) else (none)) else (if x7 = 37 then (if (wrap64 (x6 + 2)) ≥ (x0.size : Int) then (wicketref03_Unescape.j2 k x0 x5 x6 true) else (if 0 ≤ (wrap64 (x6 + 1)) then (if (wrap64 (x6 + 1)) < (x0.size : Int) then ((wicketref03_digit.f k (bt x0 (wrap64 (x6 + 1)))).bind fun t376 => (if t376 < 0 then (wicketref03_Unescape.j2 k x0 x5 x6 true) else (if 0 ≤ (wrap64 (x6 + 2)) then (if (wrap64 (x6 + 2)) < (x0.size : Int) then ((wicketref03_digit.f k (bt x0 (wrap64 (x6 + 2)))).bind fun t377 => (wicketref03_Unescape.j2 k x0 x5 x6 (decide (t377 < 0)))) else (none)) else (none)))) else (none)) else (none))) else (if x5.length < 140737488355328 then (wicketref03_Unescape.l0 k x0 (x5 ++ [x7]) (wrap64 (x6 + 1))) else (none))))
def wicketref03_Unescape.j2 : Nat → ByteArray → List Int → Int → Bool → Option (ByteArray × Int × Int)
 | 0, _, _, _, _ => none
 | k + 1, x0, x5, x6, x56 => if x56 = true then (some ((⟨#[]⟩ : ByteArray), 30, x6)) else (if 0 ≤ (wrap64 (x6 + 1)) then (if (wrap64 (x6 + 1)) < (x0.size : Int) then ((wicketref03_digit.f k (bt x0 (wrap64 (x6 + 1)))).bind fun t378 => (if 0 ≤ (wrap64 (x6 + 2)) then (if (wrap64 (x6 + 2)) < (x0.size : Int) then ((wicketref03_digit.f k (bt x0 (wrap64 (x6 + 2)))).bind fun t379 => (if x5.length < 140737488355328 then (wicketref03_Unescape.l0 k x0 (x5 ++ [(wrap64 ((wrap64 (16 * t378)) + t379)) % 256]) (wrap64 ((wrap64 (x6 + 2)) + 1))) else (none))) else (none)) else (none))) else (none)) else (none))
end
def wicketref03_Unescape.f (k : Nat) (a0 : ByteArray) : Option (ByteArray × Int × Int) := wicketref03_Unescape.l0 k a0 ([] : List Int) 0
end Go.Proofs.YtmimipgmhgalaaaGreatDoor.PAll
end
