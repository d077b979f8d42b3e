/-
  Part 3 of what the proof of ClientParses leans on: words of the print, walks of functions and plain laws; put together by pack.py, a program of this session.
-/
import Derived.Deep.RegionWith
import Derived.Outline
import Derived.Lib.LazyBuf
import Derived.Test.YtmimipgmhgalaaaGreatDoorKClientParsesb
section
namespace Go.Proofs.YtmimipgmhgalaaaGreatDoor.Spec
open Go.Proofs.YtmimipgmhgalaaaGreatDoor.PAll Go.Proofs.YtmimipgmhgalaaaGreatDoor.Pure
def sL (v : ByteArray) : List ByteArray := (scopesL v.data.toList).1.map bs
def takeL (n v : ByteArray) (c : ClT) : Option (ClT × Bool) :=
  if n = ⟨#[105, 100]⟩ then some ({ c with i := v }, true)
  else if n = ⟨#[115, 101, 99, 114, 101, 116]⟩ then some ({ c with s := v }, true)
  else if n = ⟨#[117, 114, 108]⟩ then some ({ c with u := v }, true)
  else if n = ⟨#[112, 105, 110, 103]⟩ then some ({ c with pg := v.toList != [] }, v.toList == [] || v.toList == [121, 101, 115])
  else if n = ⟨#[103, 114, 97, 110, 116, 115]⟩ then some ({ c with gr := (grantsL (sL v) c.gr).1 }, (grantsL (sL v) c.gr).2 && (scopesL v.data.toList).2 == 0)
  else if n = ⟨#[115, 99, 111, 112, 101]⟩ then some ({ c with sc := sL v }, (scopesL v.data.toList).2 == 0)
  else none
def smallB (c : ClT) : Bool := decide (c.i.size ≤ 140737488355328 ∧ c.s.size ≤ 140737488355328 ∧ c.u.size ≤ 140737488355328 ∧ c.sc.length ≤ 140737488355328 ∧ (joinedL c.sc).length ≤ 140737488355328)
def lineL : List S68 → List S68 → ClT → Option (ClT × Bool)
  | [], _, c => if smallB c = true then some (c, checkL c) else none
  | p :: r, seen, c => match takeL p.f0 p.f1 c with
    | none => some (c, false)
    | some (c', ok) => if seen.any (namedF p.f0) = true then some (c, false) else if ok = true then lineL r (seen ++ [p]) c' else some (c', false)
theorem lineL_cons (p : S68) (r seen : List S68) (c : ClT) : lineL (p :: r) seen c = match takeL p.f0 p.f1 c with
    | none => some (c, false)
    | some (c', ok) => if seen.any (namedF p.f0) = true then some (c, false) else if ok = true then lineL r (seen ++ [p]) c' else some (c', false) := rfl
def zC : ClT := ⟨⟨#[]⟩, ⟨#[]⟩, 0, false, ⟨#[]⟩, []⟩
def flatC (r : ClT × Bool) : ByteArray × ByteArray × Int × Bool × ByteArray × List ByteArray × Bool := (r.1.i, r.1.s, r.1.gr, r.1.pg, r.1.u, r.1.sc, r.2)
end Go.Proofs.YtmimipgmhgalaaaGreatDoor.Spec
namespace Go.Proofs.YtmimipgmhgalaaaGreatDoor.PAll
open Go.RowKit Go.Proofs.YtmimipgmhgalaaaGreatDoorW.PrintWords Go.Proofs.YtmimipgmhgalaaaGreatDoor.Plain Go.Proofs.YtmimipgmhgalaaaGreatDoor.Spec Go.Proofs.YtmimipgmhgalaaaGreatDoor.Pure
set_option linter.unusedVariables false
set_option linter.unusedSimpArgs false
def client_parseLine.f (a0 : ByteArray) : Option (ByteArray × ByteArray × Int × Bool × ByteArray × List ByteArray × Bool) :=
  if a0.size ≤ 140737488355328 then (if (parse a0.data.toList).2.1 = 0 then (lineL ((parse a0.data.toList).1.map mk34) [] zC).map flatC else some (flatC (zC, false))) else none
theorem zRule (w : World) : (zeroValue 137).run Tryz.prog w = .ok (.agg #[.nilFunc]) w := by kernel_rfl
theorem look_there (w : World) (mb : Nat) (hb : w.heap[mb]? = some (.map ruleTab 6)) (n : ByteArray) (i : Nat) (v : Value) (h : Instr.findNow .string (.string n) ruleTab.toList 0 = some (some (i, v))) :
    (Instr.lookup 133 (.map (some mb)) (.string n) true).run Tryz.prog w = .ok (.tuple #[v, .bool true]) w := by
  have hk : ∀ e, (Instr.checkKey e 10000 9 (.string n)).run Tryz.prog w = .ok () w := fun e => MapKept.run_checkKey Tryz.underlying9 (show MapKept.IsKey .string (.string n) from trivial) e 9999
  simp [Instr.lookup, run_underlying Tryz.underlying133, MapKept.run_getObj_map hb, hk, MapKept.run_findKey Tryz.underlying9 h, Result.andThen]
theorem look_none (w : World) (mb : Nat) (hb : w.heap[mb]? = some (.map ruleTab 6)) (n : ByteArray) (h : Instr.findNow .string (.string n) ruleTab.toList 0 = some none) :
    (Instr.lookup 133 (.map (some mb)) (.string n) true).run Tryz.prog w = .ok (.tuple #[.agg #[.nilFunc], .bool false]) w := by
  have hk : ∀ e, (Instr.checkKey e 10000 9 (.string n)).run Tryz.prog w = .ok () w := fun e => MapKept.run_checkKey Tryz.underlying9 (show MapKept.IsKey .string (.string n) from trivial) e 9999
  simp [Instr.lookup, run_underlying Tryz.underlying133, MapKept.run_getObj_map hb, hk, MapKept.run_findKey Tryz.underlying9 h, Result.andThen, zRule]
theorem bytes_ne {a b : ByteArray} (h : ¬ a = b) : (a == b) = false := by
  have e : (a == b) = (a.data == b.data) := rfl
  rw [e, beq_eq_false_iff_ne]
  intro e2
  exact h (by cases a; cases b; simp_all)
theorem find_none (n : ByteArray) (v : ByteArray) (c : ClT) (h : takeL n v c = none) : Instr.findNow .string (.string n) ruleTab.toList 0 = some none := by
  unfold takeL at h
  split at h
  · cases h
  · rename_i h1
    split at h
    · cases h
    · rename_i h2
      split at h
      · cases h
      · rename_i h3
        split at h
        · cases h
        · rename_i h4
          split at h
          · cases h
          · rename_i h5
            split at h
            · cases h
            · rename_i h6
              simp [ruleTab, Instr.findNow, Instr.sameNow, bytes_ne h1, bytes_ne h2, bytes_ne h3, bytes_ne h4, bytes_ne h5, bytes_ne h6]
structure Taken (n v : ByteArray) (c c' : ClT) (ok : Bool) (i f : Nat) : Prop where
  find : Instr.findNow .string (.string n) ruleTab.toList 0 = some (some (i, ruleV f))
  enters : ∀ args w, (callFunc f args).run Tryz.prog w = .ok (.enter f args) w
  call : ∀ (w0 w : World) (g : Nat) (sv : Value), Cl w0 w g c.i c.s c.gr c.pg c.u sv → Kd.R Kd.string 9 w w0.heap.size (fun k => g < k) sv c.sc →
    Calls Tryz.prog f #[.pointer (some ⟨g, 0, none⟩), .string v] w fun e w' => e = .returned (.bool ok) ∧ ∃ sv', Cl w0 w' g c'.i c'.s c'.gr c'.pg c'.u sv' ∧ Kd.R Kd.string 9 w' w0.heap.size (fun k => g < k) sv' c'.sc ∧ KeepBut w w' g none
theorem R_kept {w w' : World} {base g : Nat} {sv : Value} {l : List ByteArray} (h : Kd.R Kd.string 9 w base (fun k => g < k) sv l) (hk : KeepBut w w' g none) : Kd.R Kd.string 9 w' base (fun k => g < k) sv l := Kd.R_keep h hk (fun k hk' e => by omega)
theorem take_any (n v : ByteArray) (c c' : ClT) (ok : Bool) (h : takeL n v c = some (c', ok)) : ∃ i f, Taken n v c c' ok i f := by
  obtain ⟨k, hk⟩ := Ev.rounds (scopes_ev v)
  unfold takeL at h
  split at h
  · rename_i hn
    subst hn
    simp only [Option.some.injEq, Prod.mk.injEq] at h
    obtain ⟨rfl, rfl⟩ := h
    exact ⟨0, 117, by kernel_rfl, enters_of Tryz.func117 (by kernel_rfl) rfl, fun w0 w g sv hC hR => (take_id g _ _ _ _ _ _ v w0 w hC).mono fun e w' ⟨he, h1, h2⟩ => ⟨he, sv, h1, R_kept hR h2, h2⟩⟩
  · split at h
    · rename_i hn
      subst hn
      simp only [Option.some.injEq, Prod.mk.injEq] at h
      obtain ⟨rfl, rfl⟩ := h
      exact ⟨1, 118, by kernel_rfl, enters_of Tryz.func118 (by kernel_rfl) rfl, fun w0 w g sv hC hR => (take_secret g _ _ _ _ _ _ v w0 w hC).mono fun e w' ⟨he, h1, h2⟩ => ⟨he, sv, h1, R_kept hR h2, h2⟩⟩
    · split at h
      · rename_i hn
        subst hn
        simp only [Option.some.injEq, Prod.mk.injEq] at h
        obtain ⟨rfl, rfl⟩ := h
        exact ⟨2, 119, by kernel_rfl, enters_of Tryz.func119 (by kernel_rfl) rfl, fun w0 w g sv hC hR => (take_url g _ _ _ _ _ _ v w0 w hC).mono fun e w' ⟨he, h1, h2⟩ => ⟨he, sv, h1, R_kept hR h2, h2⟩⟩
      · split at h
        · rename_i hn
          subst hn
          simp only [Option.some.injEq, Prod.mk.injEq] at h
          obtain ⟨rfl, rfl⟩ := h
          exact ⟨3, 120, by kernel_rfl, enters_of Tryz.func120 (by kernel_rfl) rfl, fun w0 w g sv hC hR => (take_ping g _ _ _ _ _ _ v w0 w hC).mono fun e w' ⟨he, h1, h2⟩ => ⟨he, sv, h1, R_kept hR h2, h2⟩⟩
        · split at h
          · rename_i hn
            subst hn
            simp only [Option.some.injEq, Prod.mk.injEq] at h
            obtain ⟨rfl, rfl⟩ := h
            exact ⟨4, 121, by kernel_rfl, enters_of Tryz.func121 (by kernel_rfl) rfl, fun w0 w g sv hC hR => (take_grants k g _ _ _ _ _ _ v _ _ hk w0 w hC).mono fun e w' ⟨he, h1, h2⟩ => ⟨he, sv, h1, R_kept hR h2, h2⟩⟩
          · split at h
            · rename_i hn
              subst hn
              simp only [Option.some.injEq, Prod.mk.injEq] at h
              obtain ⟨rfl, rfl⟩ := h
              refine ⟨5, 122, by kernel_rfl, enters_of Tryz.func122 (by kernel_rfl) rfl, fun w0 w g sv hC hR => (take_scope k g _ _ _ _ _ _ v _ _ hk w0 w hC).mono fun e w' ⟨he, sv', h1, h2, h3⟩ => ⟨he, sv', h1, ?_, h3⟩⟩
              have hg := blk_lt hC.b
              exact Kd.R_mono (Kd.R_lower (R_above h2) hC.o.size) (fun k hk => by omega)
            · cases h
theorem run_store_nilFunc {P : Program} {w : World} {a : Addr} {m : Mode} : (store a .nilFunc m).run P w = stored P w a .nilFunc m := run_store P w a _ m rfl
theorem run_store_fn {P : Program} {w : World} {a : Addr} {m : Mode} (f : Nat) : (store a (.func (.func f) #[] #[]) m).run P w = stored P w a (.func (.func f) #[] #[]) m := run_store P w a _ m rfl
attribute [local go_sem] run_store_nilFunc run_store_fn
structure LineInv (w wr : World) (mb : Nat) (Af : Option Addr) (cf : Nat) (L : List S68) (c : ClT) (sv : Value) : Prop where
  cl : Cl w wr (w.heap.size + 1) c.i c.s c.gr c.pg c.u sv
  rs : wr.heap[w.heap.size]? = some (.cells (clCells ⟨#[]⟩ ⟨#[]⟩ 0 false ⟨#[]⟩ (.slice none 0 0)) 40 (0, 0))
  sc : Kd.R Kd.string 9 wr w.heap.size (fun k => w.heap.size + 1 < k) sv c.sc
  fm : Kd.R k68 68 wr w.heap.size (fun k => w.heap.size + 1 < k) (.slice Af L.length cf) L
  mp : wr.heap[mb]? = some (.map ruleTab 6)
  mn : w.heap.size + 1 < mb
section
variable {w wr : World} {mb : Nat} {Af : Option Addr} {cf : Nat} {L : List S68} {c : ClT} {sv : Value} (h : LineInv w wr mb Af cf L c sv)
include h
theorem LineInv.step {w' : World} (hb : Below wr.heap.size wr w') : LineInv w w' mb Af cf L c sv :=
  ⟨h.cl.step hb, blk_below h.rs hb, Kd.R_below h.sc hb, Kd.R_below h.fm hb, blk_below h.mp hb, h.mn⟩
theorem LineInv.turn {w' : World} {c' : ClT} {sv' : Value} (hk : KeepBut wr w' (w.heap.size + 1) none) (hc : Cl w w' (w.heap.size + 1) c'.i c'.s c'.gr c'.pg c'.u sv') (hr : Kd.R Kd.string 9 w' w.heap.size (fun k => w.heap.size + 1 < k) sv' c'.sc) : LineInv w w' mb Af cf L c' sv' :=
  ⟨hc, (hk.2 _ (blk_lt h.rs) (by omega) (by simp)).trans h.rs, hr, Kd.R_keep h.fm hk (fun k hk e => by omega), (hk.2 _ (blk_lt h.mp) (by have := h.mn; omega) (by simp)).trans h.mp, h.mn⟩
end
abbrev putRes (wr : World) (g : Nat) (c : ClT) (sv : Value) : World := (((((wr.setCell ⟨g, 0, none⟩ (.string c.i)).setCell ⟨g, 1, none⟩ (.string c.s)).setCell ⟨g, 2, none⟩ (.int .i64 c.gr)).setCell ⟨g, 3, none⟩ (.bool c.pg)).setCell ⟨g, 4, none⟩ (.string c.u)).setCell ⟨g, 5, none⟩ sv
theorem LineInv.done {w wr : World} {mb : Nat} {Af : Option Addr} {cf : Nat} {L : List S68} {c : ClT} {sv : Value} (h : LineInv w wr mb Af cf L c sv) :
    (putRes wr w.heap.size c sv).heap[w.heap.size]? = some (.cells (clCells c.i c.s c.gr c.pg c.u sv) 40 (0, 0)) ∧ Kd.R Kd.string 9 (putRes wr w.heap.size c sv) w.heap.size (fun _ => True) sv c.sc ∧ Below w.heap.size w (putRes wr w.heap.size c sv) := by
  refine ⟨blk_put (blk_put (blk_put (blk_put (blk_put (blk_put h.rs 0 _ rfl) 1 _ rfl) 2 _ rfl) 3 _ rfl) 4 _ rfl) 5 _ rfl, R_any (?_ : Kd.R Kd.string 9 _ w.heap.size (fun k => w.heap.size + 1 < k) sv c.sc), ?_⟩
  · have hne : ∀ k, w.heap.size + 1 < k → k ≠ w.heap.size := fun k hk e => by omega
    exact Kd.R_far (Kd.R_far (Kd.R_far (Kd.R_far (Kd.R_far (Kd.R_far h.sc hne _) hne _) hne _) hne _) hne _) hne _
  · have hg : w.heap.size ≤ w.heap.size := Nat.le_refl _
    exact below_set (below_set (below_set (below_set (below_set (below_set h.cl.o hg) hg) hg) hg) hg) hg
theorem rule_at {wr w3 : World} {p0 p1 : ByteArray} {f : Nat} (hb : Below ((wr.alloc (.cells #[.string p0, .string p1] 68)).alloc (.cells #[.func (.func f) #[] #[]] 137)).heap.size ((wr.alloc (.cells #[.string p0, .string p1] 68)).alloc (.cells #[.func (.func f) #[] #[]] 137)) w3) :
    w3.cell? ⟨wr.heap.size + 1, 0, none⟩ = some (.func (.func f) #[] #[]) := by
  have h := blk_new (wr.alloc (.cells #[.string p0, .string p1] 68)) (.cells #[.func (.func f) #[] #[]] 137)
  have hs : (wr.alloc (.cells #[.string p0, .string p1] 68)).heap.size = wr.heap.size + 1 := by show (wr.heap.push _).size = _; simp
  rw [hs] at h
  rw [blk_cell (blk_below h hb)]
  rfl
theorem pair_at {wr w3 : World} {p0 p1 : ByteArray} {f : Nat} (hb : Below ((wr.alloc (.cells #[.string p0, .string p1] 68)).alloc (.cells #[.func (.func f) #[] #[]] 137)).heap.size ((wr.alloc (.cells #[.string p0, .string p1] 68)).alloc (.cells #[.func (.func f) #[] #[]] 137)) w3) :
    w3.cell? ⟨wr.heap.size, 1, none⟩ = some (.string p1) := by
  rw [blk_cell (blk_below (blk_alloc (blk_new wr (.cells #[.string p0, .string p1] 68)) (.cells #[.func (.func f) #[] #[]] 137)) hb)]
  rfl
theorem line_start (w w1 : World) (Af : Option Addr) (cf : Nat) (L : List S68)
    (hb : Below ((w.alloc (.cells (clCells ⟨#[]⟩ ⟨#[]⟩ 0 false ⟨#[]⟩ (.slice none 0 0)) 40)).alloc (.cells (clCells ⟨#[]⟩ ⟨#[]⟩ 0 false ⟨#[]⟩ (.slice none 0 0)) 40)).heap.size ((w.alloc (.cells (clCells ⟨#[]⟩ ⟨#[]⟩ 0 false ⟨#[]⟩ (.slice none 0 0)) 40)).alloc (.cells (clCells ⟨#[]⟩ ⟨#[]⟩ 0 false ⟨#[]⟩ (.slice none 0 0)) 40)) w1)
    (ho : Kd.R k68 68 w1 ((w.alloc (.cells (clCells ⟨#[]⟩ ⟨#[]⟩ 0 false ⟨#[]⟩ (.slice none 0 0)) 40)).alloc (.cells (clCells ⟨#[]⟩ ⟨#[]⟩ 0 false ⟨#[]⟩ (.slice none 0 0)) 40)).heap.size (fun _ => True) (.slice Af L.length cf) L) :
    LineInv w (w1.alloc (.map ruleTab 6)) w1.heap.size Af cf L zC (.slice none 0 0) := by
  have h1 := blk_new w (.cells (clCells ⟨#[]⟩ ⟨#[]⟩ 0 false ⟨#[]⟩ (.slice none 0 0)) 40)
  have h2 := blk_new (w.alloc (.cells (clCells ⟨#[]⟩ ⟨#[]⟩ 0 false ⟨#[]⟩ (.slice none 0 0)) 40)) (.cells (clCells ⟨#[]⟩ ⟨#[]⟩ 0 false ⟨#[]⟩ (.slice none 0 0)) 40)
  have hB : Below w.heap.size w ((w.alloc (.cells (clCells ⟨#[]⟩ ⟨#[]⟩ 0 false ⟨#[]⟩ (.slice none 0 0)) 40)).alloc (.cells (clCells ⟨#[]⟩ ⟨#[]⟩ 0 false ⟨#[]⟩ (.slice none 0 0)) 40)) := below_alloc (below_alloc (Below.refl _ _) _) _
  have hs1 : (w.alloc (.cells (clCells ⟨#[]⟩ ⟨#[]⟩ 0 false ⟨#[]⟩ (.slice none 0 0)) 40)).heap.size = w.heap.size + 1 := by show (w.heap.push _).size = _; simp
  have hs2 : ((w.alloc (.cells (clCells ⟨#[]⟩ ⟨#[]⟩ 0 false ⟨#[]⟩ (.slice none 0 0)) 40)).alloc (.cells (clCells ⟨#[]⟩ ⟨#[]⟩ 0 false ⟨#[]⟩ (.slice none 0 0)) 40)).heap.size = w.heap.size + 2 := by show ((w.heap.push _).push _).size = _; simp
  rw [hs1] at h2
  have hz := hb.size
  have r1 := blk_below (blk_alloc h1 (.cells (clCells ⟨#[]⟩ ⟨#[]⟩ 0 false ⟨#[]⟩ (.slice none 0 0)) 40)) hb
  have r2 := blk_below h2 hb
  have hBw : Below w.heap.size w w1 := hB.trans (hb.mono (by omega))
  have ho' := Kd.R_lower (Kd.R_mono (Kd.R_bound ho) (ok' := fun k => w.heap.size + 1 < k) (fun k hk => by have := hk.2.1; omega)) (show w.heap.size ≤ _ by omega)
  refine LineInv.mk ⟨blk_alloc r2 _, below_alloc hBw _, by omega⟩ (blk_alloc r1 _) (Kd.R_nil _ _ _ _ _) (Kd.R_alloc ho' _) (blk_new w1 _) (by omega)
theorem line_first (w w1 : World) (Af : Option Addr) (cf : Nat) (L : List S68)
    (hb : Below ((w.alloc (.cells (clCells ⟨#[]⟩ ⟨#[]⟩ 0 false ⟨#[]⟩ (.slice none 0 0)) 40)).alloc (.cells (clCells ⟨#[]⟩ ⟨#[]⟩ 0 false ⟨#[]⟩ (.slice none 0 0)) 40)).heap.size ((w.alloc (.cells (clCells ⟨#[]⟩ ⟨#[]⟩ 0 false ⟨#[]⟩ (.slice none 0 0)) 40)).alloc (.cells (clCells ⟨#[]⟩ ⟨#[]⟩ 0 false ⟨#[]⟩ (.slice none 0 0)) 40)) w1)
    (ho : Kd.R k68 68 w1 ((w.alloc (.cells (clCells ⟨#[]⟩ ⟨#[]⟩ 0 false ⟨#[]⟩ (.slice none 0 0)) 40)).alloc (.cells (clCells ⟨#[]⟩ ⟨#[]⟩ 0 false ⟨#[]⟩ (.slice none 0 0)) 40)).heap.size (fun _ => True) (.slice Af L.length cf) L) :
    Cl w w1 (w.heap.size + 1) ⟨#[]⟩ ⟨#[]⟩ 0 false ⟨#[]⟩ (.slice none 0 0) ∧ w1.heap[w.heap.size]? = some (.cells (clCells ⟨#[]⟩ ⟨#[]⟩ 0 false ⟨#[]⟩ (.slice none 0 0)) 40 (0, 0)) := by
  have h1 := blk_new w (.cells (clCells ⟨#[]⟩ ⟨#[]⟩ 0 false ⟨#[]⟩ (.slice none 0 0)) 40)
  have h2 := blk_new (w.alloc (.cells (clCells ⟨#[]⟩ ⟨#[]⟩ 0 false ⟨#[]⟩ (.slice none 0 0)) 40)) (.cells (clCells ⟨#[]⟩ ⟨#[]⟩ 0 false ⟨#[]⟩ (.slice none 0 0)) 40)
  have hB : Below w.heap.size w ((w.alloc (.cells (clCells ⟨#[]⟩ ⟨#[]⟩ 0 false ⟨#[]⟩ (.slice none 0 0)) 40)).alloc (.cells (clCells ⟨#[]⟩ ⟨#[]⟩ 0 false ⟨#[]⟩ (.slice none 0 0)) 40)) := below_alloc (below_alloc (Below.refl _ _) _) _
  have hs1 : (w.alloc (.cells (clCells ⟨#[]⟩ ⟨#[]⟩ 0 false ⟨#[]⟩ (.slice none 0 0)) 40)).heap.size = w.heap.size + 1 := by show (w.heap.push _).size = _; simp
  have hs2 : ((w.alloc (.cells (clCells ⟨#[]⟩ ⟨#[]⟩ 0 false ⟨#[]⟩ (.slice none 0 0)) 40)).alloc (.cells (clCells ⟨#[]⟩ ⟨#[]⟩ 0 false ⟨#[]⟩ (.slice none 0 0)) 40)).heap.size = w.heap.size + 2 := by show ((w.heap.push _).push _).size = _; simp
  rw [hs1] at h2
  have hz := hb.size
  have r1 := blk_below (blk_alloc h1 (.cells (clCells ⟨#[]⟩ ⟨#[]⟩ 0 false ⟨#[]⟩ (.slice none 0 0)) 40)) hb
  have r2 := blk_below h2 hb
  have hBw : Below w.heap.size w w1 := hB.trans (hb.mono (by omega))
  exact ⟨⟨r2, hBw, by omega⟩, r1⟩
set_option maxHeartbeats 8000000 in
set_option maxRecDepth 100000 in
theorem client_parseLine.calls (a0 : ByteArray) (r1 r2 : ByteArray) (r3 : Int) (r4 : Bool) (r5 : ByteArray) (r6 : List ByteArray) (r7 : Bool) (w : World) (h : client_parseLine.f a0 = some (r1, r2, r3, r4, r5, r6, r7)) :
    Calls Tryz.prog 51 #[.string a0] w fun e w' => ∃ v0_ : Value, e = .returned (.tuple #[.agg #[.string r1, .string r2, .int .i64 r3, .bool r4, .string r5, v0_], .bool r7]) ∧ Kd.R Kd.string 9 w' w.heap.size (fun _ => True) v0_ r6 ∧ Below w.heap.size w w' := by
  unfold client_parseLine.f at h
  split at h
  · rename_i hs
    obtain ⟨kp, hkp⟩ := Ev.rounds (parse_ev a0 hs)
    split at h
    · rename_i he
      have hkp' : urlform_Parse.f kp a0 = some ((parse a0.data.toList).1.map mk34, 0, (parse a0.data.toList).2.2) := by rw [hkp]; unfold res34; rw [he]
      obtain ⟨L, hL⟩ : ∃ L, (parse a0.data.toList).1.map mk34 = L := ⟨_, rfl⟩
      obtain ⟨pl, hpl⟩ : ∃ pl, (parse a0.data.toList).2.2 = pl := ⟨_, rfl⟩
      rw [hL, hpl] at hkp'
      rw [hL] at h
      obtain ⟨R, hR⟩ : ∃ R, some R = lineL L [] zC := by
        cases hl : lineL L [] zC with
        | none => rw [hl] at h; cases h
        | some R => exact ⟨R, rfl⟩
      rw [← hR] at h
      have HH := Lib.hid h
      have HL := Lib.hid hR
      clear h hkp he hL hpl hR
      have hu137 := Tryz.underlying137
      have hu68 := Tryz.underlying68
      have hu40 := Tryz.underlying40
      go_enter Tryz.func51, Tryz.ntmps51
      go_wp2_with (first | (go_at_call 82; refine (urlform_Parse.calls kp a0 _ _ _ _ hkp').mono ?_; rintro e w1 ⟨v0, rfl, ho, hb⟩; obtain ⟨Af, cf, rfl⟩ := Kd.R_slice ho; have hI := line_start w w1 Af cf L hb ho; clear ho hb) | (go_at_call 83; refine (client_rules.calls _).mono ?_; rintro e w2 ⟨rfl, rfl⟩))
      go_loopw [26] (fun v26 wr => ∃ (j : Nat) (c : ClT) (sv : Value), v26 = .int .i64 (j : Int) ∧ j ≤ L.length ∧ LineInv w wr w1.heap.size Af cf L c sv ∧ some R = lineL (L.drop j) (L.take j) c) (fun v26 _ => L.length - (intOf v26).toNat)
      case atStart => exact ⟨0, zC, _, rfl, Nat.zero_le _, hI, HL.out⟩
      case round =>
        obtain ⟨j, c, sv, rfl, hj, hJ, hG⟩ := hrel
        clear hI
        obtain ⟨As, cs, rfl⟩ := Kd.R_slice hJ.sc
        have hF := Kd.R_reads' hJ.fm
        have hlen : L.length ≤ 9223372036854775807 := hF.2.2.2.1
        by_cases hlt : j < L.length
        · obtain ⟨ad, hA, hx0, hx1⟩ := at_T68 hF.2.2 (j : Int) (by omega) (by omega)
          subst hA
          have hp : rd_T68 L (j : Int) = L[j] := by simp [rd_T68, hlt]
          rw [hp] at hx0 hx1
          rw [List.drop_eq_getElem_cons hlt] at hG
          have htk := List.take_succ_eq_append_getElem hlt
          simp only [Int.toNat_natCast] at hx0 hx1
          clear hp
          generalize hpk : L[j] = p at *
          have hP1 : Below wr.heap.size wr (wr.alloc (.cells #[.string p.f0, .string p.f1] 68)) := below_alloc (Below.refl _ _) _
          have hJ1 := hJ.step hP1
          have hPb := blk_new wr (.cells #[.string p.f0, .string p.f1] 68)
          have hLj : (L.take j).length = j := by rw [List.length_take]; omega
          have hmono := fun o => hJ1.step (below_alloc (Below.refl _ _) o)
          have hall := fun (o : Obj) => all_twice (some ad) cf (L.take j) p.f0 p.f1 wr.heap.size ((wr.alloc (.cells #[.string p.f0, .string p.f1] 68)).alloc o) (C_take (Kd.R_reads' (hmono o).fm).2.2 j hj) (blk_alloc hPb o)
          rw [hLj] at hall
          cases hT : takeL p.f0 p.f1 c with
          | none =>
            have hlk := look_none (wr.alloc (.cells #[.string p.f0, .string p.f1] 68)) w1.heap.size hJ1.mp p.f0 (find_none _ _ _ hT)
            have hall0 := hall (.cells #[.nilFunc] 137)
            have hJ2 := hmono (.cells #[.nilFunc] 137)
            clear hall hmono
            have HJ := Lib.hid hJ
            have HJ1 := Lib.hid hJ1
            have HJ2 := Lib.hid hJ2
            have hh := HH.out
            have hR : some R = some (c, false) := by rw [hG, lineL_cons, hT]
            rw [hR] at hh
            simp only [Option.map_some, flatC, Option.some.injEq, Prod.mk.injEq] at hh
            have HR := Lib.hid hh
            clear hJ hJ1 hJ2 hG hR hh
            go_wp2_with (go_at_call 84; refine hall0.mono ?_; rintro e w3 ⟨rfl, hb3⟩; have hJ3 := HJ2.out.step hb3; have cc0 := hJ3.cl.c0; have cc1 := hJ3.cl.c1; have cc2 := hJ3.cl.c2; have cc3 := hJ3.cl.c3; have cc4 := hJ3.cl.c4; have cc5 := hJ3.cl.c5; have rc0 := blk_cell hJ3.rs 0; have rc1 := blk_cell hJ3.rs 1; have rc2 := blk_cell hJ3.rs 2; have rc3 := blk_cell hJ3.rs 3; have rc4 := blk_cell hJ3.rs 4; have rc5 := blk_cell hJ3.rs 5; have rf0 := blk_frozen hJ3.rs 0; have rf1 := blk_frozen hJ3.rs 1; have rf2 := blk_frozen hJ3.rs 2; have rf3 := blk_frozen hJ3.rs 3; have rf4 := blk_frozen hJ3.rs 4; have rf5 := blk_frozen hJ3.rs 5; have hE := Lib.hid hJ3.done)
            refine bodyPost_ret (results_ct rfl _ _ w.heap.size 40 (clCells c.i c.s c.gr c.pg c.u (.slice As c.sc.length cs)) (0, 0) _ rfl hE.out.1 hu40 rfl (by kernel_rfl)) rfl ?_
            obtain ⟨h1, h2, h3, h4, h5, h6, h7⟩ := HR.out
            exact ⟨_, by rw [← h1, ← h2, ← h3, ← h4, ← h5, ← h7]; rfl, by rw [← h6]; exact hE.out.2.1, hE.out.2.2⟩
          | some q =>
            obtain ⟨c', ok⟩ := q
            obtain ⟨ix, f, T⟩ := take_any _ _ _ _ _ hT
            have hlk := look_there (wr.alloc (.cells #[.string p.f0, .string p.f1] 68)) w1.heap.size hJ1.mp p.f0 ix (ruleV f) T.find
            have hall0 := hall (.cells #[.func (.func f) #[] #[]] 137)
            have hJ2 := hmono (.cells #[.func (.func f) #[] #[]] 137)
            have eF := T.enters
            clear hall hmono
            have HJ := Lib.hid hJ
            have HJ1 := Lib.hid hJ1
            have HJ2 := Lib.hid hJ2
            have HT := Lib.hid T
            clear T hJ hJ1 hJ2
            cases htw : (L.take j).any (namedF p.f0) with
            | true =>
              rw [htw] at hall0
              have hh := HH.out
              have hR : some R = some (c, false) := by rw [hG, lineL_cons, hT]; show (if (L.take j).any (namedF p.f0) = true then _ else _) = _; rw [htw]; rfl
              rw [hR] at hh
              simp only [Option.map_some, flatC, Option.some.injEq, Prod.mk.injEq] at hh
              have HR := Lib.hid hh
              clear hG hR hh
              go_wp2_with (go_at_call 84; refine hall0.mono ?_; rintro e w3 ⟨rfl, hb3⟩; have hJ3 := HJ2.out.step hb3; have cc0 := hJ3.cl.c0; have cc1 := hJ3.cl.c1; have cc2 := hJ3.cl.c2; have cc3 := hJ3.cl.c3; have cc4 := hJ3.cl.c4; have cc5 := hJ3.cl.c5; have rc0 := blk_cell hJ3.rs 0; have rc1 := blk_cell hJ3.rs 1; have rc2 := blk_cell hJ3.rs 2; have rc3 := blk_cell hJ3.rs 3; have rc4 := blk_cell hJ3.rs 4; have rc5 := blk_cell hJ3.rs 5; have rf0 := blk_frozen hJ3.rs 0; have rf1 := blk_frozen hJ3.rs 1; have rf2 := blk_frozen hJ3.rs 2; have rf3 := blk_frozen hJ3.rs 3; have rf4 := blk_frozen hJ3.rs 4; have rf5 := blk_frozen hJ3.rs 5; have hE := Lib.hid hJ3.done)
              refine bodyPost_ret (results_ct rfl _ _ w.heap.size 40 (clCells c.i c.s c.gr c.pg c.u (.slice As c.sc.length cs)) (0, 0) _ rfl hE.out.1 hu40 rfl (by kernel_rfl)) rfl ?_
              obtain ⟨h1, h2, h3, h4, h5, h6, h7⟩ := HR.out
              exact ⟨_, by rw [← h1, ← h2, ← h3, ← h4, ← h5, ← h7]; rfl, by rw [← h6]; exact hE.out.2.1, hE.out.2.2⟩
            | false =>
              rw [htw] at hall0
              have hG2 : some R = if ok = true then lineL (L.drop (j + 1)) (L.take (j + 1)) c' else some (c', false) := by rw [hG, lineL_cons, hT, htk]; show (if (L.take j).any (namedF p.f0) = true then _ else _) = _; rw [htw]; rfl
              clear hG
              cases ok with
              | true =>
                rw [if_pos rfl] at hG2
                have HG2 := Lib.hid hG2
                clear hG2
                go_wp2_with (first | (go_at_call 84; refine hall0.mono ?_; rintro e w3 ⟨rfl, hb3⟩; have hJ3 := HJ2.out.step hb3; have hq := rule_at hb3; have hpv := pair_at hb3) | (go_at_fn f; refine (HT.out.call w w3 (w.heap.size + 1) _ hJ3.cl hJ3.sc).mono ?_; rintro e w4 ⟨rfl, sv', hC', hR', hK'⟩))
                exact ⟨⟨j + 1, c', sv', rfl, by omega, hJ3.turn hK' hC' hR', HG2.out⟩, by simp [intOf]; omega⟩
              | false =>
                rw [if_neg (by simp)] at hG2
                have hh := HH.out
                rw [hG2] at hh
                simp only [Option.map_some, flatC, Option.some.injEq, Prod.mk.injEq] at hh
                have HR := Lib.hid hh
                clear hG2 hh
                go_wp2_with (first | (go_at_call 84; refine hall0.mono ?_; rintro e w3 ⟨rfl, hb3⟩; have hJ3 := HJ2.out.step hb3; have hq := rule_at hb3; have hpv := pair_at hb3) | (go_at_fn f; refine (HT.out.call w w3 (w.heap.size + 1) _ hJ3.cl hJ3.sc).mono ?_; rintro e w4 ⟨rfl, sv', hC', hR', hK'⟩; have hJ4 := hJ3.turn hK' hC' hR'; clear hq hpv hC' hK'; obtain ⟨As', cs', rfl⟩ := Kd.R_slice hR'; have cc0 := hJ4.cl.c0; have cc1 := hJ4.cl.c1; have cc2 := hJ4.cl.c2; have cc3 := hJ4.cl.c3; have cc4 := hJ4.cl.c4; have cc5 := hJ4.cl.c5; have rc0 := blk_cell hJ4.rs 0; have rc1 := blk_cell hJ4.rs 1; have rc2 := blk_cell hJ4.rs 2; have rc3 := blk_cell hJ4.rs 3; have rc4 := blk_cell hJ4.rs 4; have rc5 := blk_cell hJ4.rs 5; have rf0 := blk_frozen hJ4.rs 0; have rf1 := blk_frozen hJ4.rs 1; have rf2 := blk_frozen hJ4.rs 2; have rf3 := blk_frozen hJ4.rs 3; have rf4 := blk_frozen hJ4.rs 4; have rf5 := blk_frozen hJ4.rs 5; have hE := Lib.hid hJ4.done))
                refine bodyPost_ret (results_ct rfl _ _ w.heap.size 40 (clCells c'.i c'.s c'.gr c'.pg c'.u (.slice As' c'.sc.length cs')) (0, 0) _ rfl hE.out.1 hu40 rfl (by kernel_rfl)) rfl ?_
                obtain ⟨h1, h2, h3, h4, h5, h6, h7⟩ := HR.out
                exact ⟨_, by rw [← h1, ← h2, ← h3, ← h4, ← h5, ← h7]; rfl, by rw [← h6]; exact hE.out.2.1, hE.out.2.2⟩
        · have hge : decide (j < L.length) = false := decide_eq_false hlt
          rw [List.drop_eq_nil_of_le (by omega)] at hG
          have hsm : smallB c = true := by
            cases hb : smallB c with
            | true => rfl
            | false => unfold lineL at hG; rw [hb] at hG; simp at hG
          have hG2 : some R = some (c, checkL c) := by rw [hG]; unfold lineL; rw [hsm]; rfl
          have hh := HH.out
          rw [hG2] at hh
          simp only [Option.map_some, flatC, Option.some.injEq, Prod.mk.injEq] at hh
          have HR := Lib.hid hh
          unfold smallB at hsm
          obtain ⟨s1, s2, s3, s4, s5⟩ := of_decide_eq_true hsm
          obtain ⟨kc, hkc⟩ := Ev.rounds (check_ev c ⟨s1, s2, s3, s4, s5⟩)
          have hS := Kd.R_reads' hJ.sc
          have HJ := Lib.hid hJ
          have hJ3 := hJ.step (Below.drew (Below.refl _ wr))
          clear hG hG2 hh hsm s1 s2 s3 s4 s5 hJ hS hF
          have hS := Kd.R_reads' hJ3.sc
          have HS1 := Lib.hid hS.2.2
          have HS2 := Lib.hid hS.2.1
          have HK := Lib.hid hkc
          clear hS hkc
          have cc0 := hJ3.cl.c0
          have cc1 := hJ3.cl.c1
          have cc2 := hJ3.cl.c2
          have cc3 := hJ3.cl.c3
          have cc4 := hJ3.cl.c4
          have cc5 := hJ3.cl.c5
          have rc0 := blk_cell hJ3.rs 0
          have rc1 := blk_cell hJ3.rs 1
          have rc2 := blk_cell hJ3.rs 2
          have rc3 := blk_cell hJ3.rs 3
          have rc4 := blk_cell hJ3.rs 4
          have rc5 := blk_cell hJ3.rs 5
          have rf0 := blk_frozen hJ3.rs 0
          have rf1 := blk_frozen hJ3.rs 1
          have rf2 := blk_frozen hJ3.rs 2
          have rf3 := blk_frozen hJ3.rs 3
          have rf4 := blk_frozen hJ3.rs 4
          have rf5 := blk_frozen hJ3.rs 5
          have hE := Lib.hid hJ3.done
          clear hE
          have HJ3 := Lib.hid hJ3
          clear hJ3
          go_wp2
          go_region_with (go_at_call 23; refine (client_Check.calls kc c.i c.s c.gr c.pg c.u As cs c.sc _ _ HS1.out HS2.out HK.out).mono ?_; rintro e w3 ⟨rfl, hb3⟩; have hJ4 := HJ3.out.step hb3; have cc0 := hJ4.cl.c0; have cc1 := hJ4.cl.c1; have cc2 := hJ4.cl.c2; have cc3 := hJ4.cl.c3; have cc4 := hJ4.cl.c4; have cc5 := hJ4.cl.c5; have rc0 := blk_cell hJ4.rs 0; have rc1 := blk_cell hJ4.rs 1; have rc2 := blk_cell hJ4.rs 2; have rc3 := blk_cell hJ4.rs 3; have rc4 := blk_cell hJ4.rs 4; have rc5 := blk_cell hJ4.rs 5; have rf0 := blk_frozen hJ4.rs 0; have rf1 := blk_frozen hJ4.rs 1; have rf2 := blk_frozen hJ4.rs 2; have rf3 := blk_frozen hJ4.rs 3; have rf4 := blk_frozen hJ4.rs 4; have rf5 := blk_frozen hJ4.rs 5; have hE := Lib.hid hJ4.done)
          all_goals
            go_wp2
            refine bodyPost_ret (results_ct rfl _ _ w.heap.size 40 (clCells c.i c.s c.gr c.pg c.u (.slice As c.sc.length cs)) (0, 0) _ rfl hE.out.1 hu40 rfl (by kernel_rfl)) rfl ?_
            obtain ⟨h1, h2, h3, h4, h5, h6, h7⟩ := HR.out
            have hn : (numC (checkL c) == 0) = checkL c := by cases checkL c <;> rfl
            refine ⟨_, ?_, by rw [← h6]; exact hE.out.2.1, hE.out.2.2⟩
            rw [← h1, ← h2, ← h3, ← h4, ← h5, ← hn.trans h7]
            rfl
    · rename_i he
      have hkp' : urlform_Parse.f kp a0 = some ((parse a0.data.toList).1.map mk34, (parse a0.data.toList).2.1, (parse a0.data.toList).2.2) := hkp
      simp only [flatC, zC, Option.some.injEq, Prod.mk.injEq] at h
      obtain ⟨rfl, rfl, rfl, rfl, rfl, rfl, rfl⟩ := h
      obtain ⟨L, hL⟩ : ∃ L, (parse a0.data.toList).1.map mk34 = L := ⟨_, rfl⟩
      obtain ⟨pl, hpl⟩ : ∃ pl, (parse a0.data.toList).2.2 = pl := ⟨_, rfl⟩
      obtain ⟨ec, hec⟩ : ∃ ec, (parse a0.data.toList).2.1 = ec := ⟨_, rfl⟩
      rw [hL, hpl, hec] at hkp'
      rw [hec] at he
      have hne : (ec == 0) = false := beq_eq_false_iff_ne.2 he
      clear hkp hec hL hpl
      have hu40 := Tryz.underlying40
      go_enter Tryz.func51, Tryz.ntmps51
      go_wp2_with (go_at_call 82; refine (urlform_Parse.calls kp a0 _ _ _ _ hkp').mono ?_; rintro e w1 ⟨v0, rfl, ho, hb⟩; obtain ⟨Af, cf, rfl⟩ := Kd.R_slice ho; obtain ⟨hC, hZ⟩ := line_first w w1 Af cf L hb ho; clear ho hb; have cc0 := hC.c0; have cc1 := hC.c1; have cc2 := hC.c2; have cc3 := hC.c3; have cc4 := hC.c4; have cc5 := hC.c5; have rc0 := blk_cell hZ 0; have rc1 := blk_cell hZ 1; have rc2 := blk_cell hZ 2; have rc3 := blk_cell hZ 3; have rc4 := blk_cell hZ 4; have rc5 := blk_cell hZ 5; have rf0 := blk_frozen hZ 0; have rf1 := blk_frozen hZ 1; have rf2 := blk_frozen hZ 2; have rf3 := blk_frozen hZ 3; have rf4 := blk_frozen hZ 4; have rf5 := blk_frozen hZ 5)
      have hblk := blk_put (blk_put (blk_put (blk_put (blk_put (blk_put hZ 0 (.string ⟨#[]⟩) rfl) 1 (.string ⟨#[]⟩) rfl) 2 (.int .i64 0) rfl) 3 (.bool false) rfl) 4 (.string ⟨#[]⟩) rfl) 5 (.slice none 0 0) rfl
      refine bodyPost_ret (results_ct rfl _ _ w.heap.size 40 (clCells ⟨#[]⟩ ⟨#[]⟩ 0 false ⟨#[]⟩ (.slice none 0 0)) (0, 0) _ rfl hblk hu40 rfl (by kernel_rfl)) rfl ?_
      have hg : w.heap.size ≤ w.heap.size := Nat.le_refl _
      exact ⟨_, rfl, Kd.R_nil _ _ _ _ _, below_set (below_set (below_set (below_set (below_set (below_set hC.o hg) hg) hg) hg) hg) hg⟩
  · cases h
end Go.Proofs.YtmimipgmhgalaaaGreatDoor.PAll
end
section
namespace Go.Proofs.YtmimipgmhgalaaaGreatDoor.Pure
open Go.RowKit Go.Proofs.YtmimipgmhgalaaaGreatDoorW.PrintWords Go.Proofs.YtmimipgmhgalaaaGreatDoor.Plain Go.Proofs.YtmimipgmhgalaaaGreatDoor.Spec
set_option linter.unusedSimpArgs false
set_option linter.unusedVariables false
theorem scopesL_facts (l : List UInt8) (h : (scopesL l).2 = 0) : Rising (scopesL l).1 ∧ ∀ p ∈ (scopesL l).1, badP p = false ∧ p.length ≤ 256 := by
  unfold scopesL at h ⊢
  by_cases h1 : 256 < l.length
  · rw [if_pos h1] at h; simp at h
  · rw [if_neg h1] at h ⊢
    by_cases h2 : l = []
    · rw [if_pos h2]; exact ⟨List.Pairwise.nil, by simp⟩
    · rw [if_neg h2] at h ⊢
      by_cases h3 : (splitL 32 l).any badP = true
      · rw [if_pos h3] at h; simp at h
      · rw [if_neg h3] at h ⊢
        by_cases h4 : 32 < (setL (splitL 32 l)).length
        · rw [if_pos h4] at h; simp at h
        · rw [if_neg h4]
          refine ⟨setL_rising _, fun p hp => ?_⟩
          rw [setL_mem] at hp
          have hw := widthL_mem _ _ hp
          rw [splitL_width] at hw
          refine ⟨?_, by omega⟩
          rw [Bool.not_eq_true, List.any_eq_false] at h3
          simpa using h3 p hp
theorem scopesL_err (l : List UInt8) (h : (scopesL l).2 ≠ 0) : (scopesL l).1 = [] := by
  unfold scopesL at h ⊢
  by_cases h1 : 256 < l.length
  · rw [if_pos h1]
  · rw [if_neg h1] at h ⊢
    by_cases h2 : l = []
    · rw [if_pos h2]
    · rw [if_neg h2] at h ⊢
      by_cases h3 : (splitL 32 l).any badP = true
      · rw [if_pos h3]
      · rw [if_neg h3] at h ⊢
        by_cases h4 : 32 < (setL (splitL 32 l)).length
        · rw [if_pos h4]
        · rw [if_neg h4] at h; simp at h
end Go.Proofs.YtmimipgmhgalaaaGreatDoor.Pure
end
section
namespace Go.Proofs.YtmimipgmhgalaaaGreatDoor.Spec
open Go.RowKit Go.Proofs.YtmimipgmhgalaaaGreatDoorW.PrintWords Go.Proofs.YtmimipgmhgalaaaGreatDoor.Plain Go.Proofs.YtmimipgmhgalaaaGreatDoor.PAll Go.Proofs.YtmimipgmhgalaaaGreatDoor.Pure
set_option linter.unusedSimpArgs false
set_option linter.unusedVariables false
abbrev nId : ByteArray := ⟨#[105, 100]⟩
abbrev nSecret : ByteArray := ⟨#[115, 101, 99, 114, 101, 116]⟩
abbrev nUrl : ByteArray := ⟨#[117, 114, 108]⟩
abbrev nPing : ByteArray := ⟨#[112, 105, 110, 103]⟩
abbrev nGrants : ByteArray := ⟨#[103, 114, 97, 110, 116, 115]⟩
abbrev nScope : ByteArray := ⟨#[115, 99, 111, 112, 101]⟩
def namesL : List ByteArray := [nId, nSecret, nGrants, nPing, nUrl, nScope]
def lastV (n : ByteArray) : List S68 → ByteArray → ByteArray
  | [], v => v
  | p :: r, v => if p.f0 = n then lastV n r p.f1 else lastV n r v
def countV (n : ByteArray) : List S68 → Nat
  | [] => 0
  | p :: r => if p.f0 = n then countV n r + 1 else countV n r
def grSum : List ByteArray → Int → Int
  | [], n => n
  | x :: r, n => if x.toList = [100, 101, 118, 105, 99, 101] then grSum r (n + 1) else if x.toList = [99, 105, 98, 97] then grSum r (n + 2) else 0
def grR (v : ByteArray) : Int := if (scopesL v.data.toList).2 = 0 then grSum (sL v) 0 else 0
def refC (l : List S68) : ClT := ⟨lastV nId l ⟨#[]⟩, lastV nSecret l ⟨#[]⟩, grR (lastV nGrants l ⟨#[]⟩), decide ((lastV nPing l ⟨#[]⟩).toList = [121, 101, 115]), lastV nUrl l ⟨#[]⟩, sL (lastV nScope l ⟨#[]⟩)⟩
def refOk (l : List S68) : Prop :=
  (∀ p ∈ l, p.f0 ∈ namesL) ∧ (∀ n ∈ namesL, countV n l ≤ 1) ∧ (scopesL (lastV nScope l ⟨#[]⟩).data.toList).2 = 0 ∧ ((lastV nPing l ⟨#[]⟩).toList = [] ∨ (lastV nPing l ⟨#[]⟩).toList = [121, 101, 115]) ∧ checkL (refC l) = true
theorem namedF_iff (n : ByteArray) (p : S68) : namedF n p = true ↔ p.f0 = n := by
  unfold namedF
  rw [beq_iff_eq]
  exact ⟨fun h => toList_inj h, fun h => by rw [h]⟩
theorem countV_zero (n : ByteArray) : ∀ l : List S68, countV n l = 0 ↔ ∀ p ∈ l, p.f0 ≠ n
  | [] => by simp [countV]
  | p :: r => by
    unfold countV
    by_cases h : p.f0 = n
    · rw [if_pos h]; simp [h]
    · rw [if_neg h, countV_zero n r]; simp [h]
theorem lastV_none (n : ByteArray) : ∀ (l : List S68) (v : ByteArray), countV n l = 0 → lastV n l v = v
  | [], v, _ => rfl
  | p :: r, v, h => by
    unfold countV at h; unfold lastV
    by_cases e : p.f0 = n
    · rw [if_pos e] at h; omega
    · rw [if_neg e] at h ⊢; exact lastV_none n r v h
theorem lastV_mem (n : ByteArray) : ∀ (l : List S68) (v : ByteArray), lastV n l v = v ∨ ∃ p ∈ l, p.f0 = n ∧ lastV n l v = p.f1
  | [], v => .inl rfl
  | p :: r, v => by
    unfold lastV
    by_cases e : p.f0 = n
    · rw [if_pos e]
      rcases lastV_mem n r p.f1 with h | ⟨q, hq, h1, h2⟩
      · exact .inr ⟨p, by simp, e, h⟩
      · exact .inr ⟨q, by simp [hq], h1, h2⟩
    · rw [if_neg e]
      rcases lastV_mem n r v with h | ⟨q, hq, h1, h2⟩
      · exact .inl h
      · exact .inr ⟨q, by simp [hq], h1, h2⟩
theorem lastV_one (n : ByteArray) : ∀ (l : List S68) (v : ByteArray) (p : S68), countV n l ≤ 1 → p ∈ l → p.f0 = n → lastV n l v = p.f1
  | [], v, p, _, hp, _ => by simp at hp
  | q :: r, v, p, hc, hp, hn => by
    unfold countV at hc; unfold lastV
    by_cases e : q.f0 = n
    · rw [if_pos e] at hc ⊢
      have h0 : countV n r = 0 := by omega
      rw [lastV_none n r _ h0]
      rcases List.mem_cons.1 hp with rfl | hp
      · rfl
      · exact absurd hn ((countV_zero n r).1 h0 p hp)
    · rw [if_neg e] at hc ⊢
      rcases List.mem_cons.1 hp with rfl | hp
      · exact absurd hn e
      · exact lastV_one n r v p hc hp hn
theorem e_toList : (⟨#[]⟩ : ByteArray).toList = [] := by rw [toList_data]
def okV (n v : ByteArray) : Bool :=
  if n = nPing then (v.toList == [] || v.toList == [121, 101, 115]) else if n = nGrants then ((grantsL (sL v) 0).2 && (scopesL v.data.toList).2 == 0) else if n = nScope then (scopesL v.data.toList).2 == 0 else true
def setV (n v : ByteArray) (c : ClT) : ClT :=
  if n = nId then { c with i := v } else if n = nSecret then { c with s := v } else if n = nUrl then { c with u := v } else if n = nPing then { c with pg := v.toList != [] } else if n = nGrants then { c with gr := (grantsL (sL v) c.gr).1 } else if n = nScope then { c with sc := sL v } else c
theorem grantsL_ok : ∀ (l : List ByteArray) (a b : Int), (grantsL l a).2 = (grantsL l b).2
  | [], a, b => rfl
  | x :: r, a, b => by
    unfold grantsL
    split
    · exact grantsL_ok r _ _
    · split
      · exact grantsL_ok r _ _
      · rfl
theorem takeL_known (n v : ByteArray) (c : ClT) (h : n ∈ namesL) : takeL n v c = some (setV n v c, okV n v) := by
  unfold namesL at h
  simp only [List.mem_cons, List.not_mem_nil, or_false] at h
  rcases h with rfl | rfl | rfl | rfl | rfl | rfl
  · rfl
  · rfl
  · unfold takeL setV okV
    rw [if_neg (by decide), if_neg (by decide), if_neg (by decide), if_neg (by decide), if_pos rfl, if_neg (by decide), if_neg (by decide), if_neg (by decide), if_neg (by decide), if_pos rfl, if_neg (by decide), if_pos rfl, grantsL_ok _ c.gr 0]
  · rfl
  · rfl
  · rfl
theorem takeL_none (n v : ByteArray) (c : ClT) (h : n ∉ namesL) : takeL n v c = none := by
  unfold namesL at h
  simp only [List.mem_cons, List.not_mem_nil, or_false, not_or] at h
  obtain ⟨h1, h2, h3, h4, h5, h6⟩ := h
  unfold takeL
  rw [if_neg h1, if_neg h2, if_neg h5, if_neg h4, if_neg h3, if_neg h6]
def foldT : List S68 → ClT → ClT
  | [], c => c
  | p :: r, c => foldT r (setV p.f0 p.f1 c)
def GoodL : List S68 → List S68 → Prop
  | [], _ => True
  | p :: r, seen => p.f0 ∈ namesL ∧ seen.any (namedF p.f0) = false ∧ okV p.f0 p.f1 = true ∧ GoodL r (seen ++ [p])
theorem lineL_good : ∀ (r seen : List S68) (c : ClT), (GoodL r seen ∧ lineL r seen c = if smallB (foldT r c) = true then some (foldT r c, checkL (foldT r c)) else none) ∨ (¬ GoodL r seen ∧ ∃ c', lineL r seen c = some (c', false))
  | [], seen, c => .inl ⟨trivial, rfl⟩
  | p :: r, seen, c => by
    rw [lineL_cons]
    by_cases h1 : p.f0 ∈ namesL
    · rw [takeL_known _ _ _ h1]
      simp only
      by_cases h2 : seen.any (namedF p.f0) = true
      · rw [if_pos h2]
        exact .inr ⟨fun h => (by have := h.2.1; rw [h2] at this; cases this), _, rfl⟩
      · rw [if_neg h2]
        by_cases h3 : okV p.f0 p.f1 = true
        · rw [if_pos h3]
          rcases lineL_good r (seen ++ [p]) (setV p.f0 p.f1 c) with ⟨hg, he⟩ | ⟨hg, he⟩
          · exact .inl ⟨⟨h1, by simpa using h2, h3, hg⟩, he⟩
          · exact .inr ⟨fun h => hg h.2.2.2, he⟩
        · rw [if_neg h3]
          exact .inr ⟨fun h => h3 h.2.2.1, _, rfl⟩
    · rw [takeL_none _ _ _ h1]
      exact .inr ⟨fun h => h1 h.1, _, rfl⟩
theorem countV_append (n : ByteArray) : ∀ a b : List S68, countV n (a ++ b) = countV n a + countV n b
  | [], b => by simp [countV]
  | p :: r, b => by
    simp only [List.cons_append, countV]
    rw [countV_append n r b]
    split <;> omega
theorem any_count (n : ByteArray) (seen : List S68) : seen.any (namedF n) = false ↔ countV n seen = 0 := by
  rw [List.any_eq_false, countV_zero]
  exact ⟨fun h p hp e => h p hp ((namedF_iff n p).2 e), fun h p hp e => h p hp ((namedF_iff n p).1 e)⟩
theorem good_iff : ∀ (r seen : List S68), GoodL r seen ↔ (∀ p ∈ r, p.f0 ∈ namesL) ∧ (∀ p ∈ r, okV p.f0 p.f1 = true) ∧ (∀ n, countV n r ≤ 1 ∧ (countV n r = 1 → countV n seen = 0))
  | [], seen => by simp [GoodL, countV]
  | p :: r, seen => by
    unfold GoodL
    rw [good_iff r (seen ++ [p]), any_count]
    constructor
    · rintro ⟨h1, h2, h3, h4, h5, h6⟩
      refine ⟨fun q hq => ?_, fun q hq => ?_, fun n => ?_⟩
      · rcases List.mem_cons.1 hq with rfl | hq
        · exact h1
        · exact h4 q hq
      · rcases List.mem_cons.1 hq with rfl | hq
        · exact h3
        · exact h5 q hq
      · have := h6 n
        rw [countV_append] at this
        simp only [countV] at this ⊢
        by_cases e : p.f0 = n
        · rw [if_pos e] at this ⊢
          subst e
          exact ⟨by omega, fun _ => h2⟩
        · rw [if_neg e] at this ⊢
          exact ⟨this.1, fun h => by have := this.2 h; omega⟩
    · rintro ⟨h1, h2, h3⟩
      have hp := h3 p.f0
      simp only [countV, if_true] at hp
      refine ⟨h1 p (by simp), hp.2 (by omega), h2 p (by simp), fun q hq => h1 q (by simp [hq]), fun q hq => h2 q (by simp [hq]), fun n => ?_⟩
      have := h3 n
      rw [countV_append]
      simp only [countV] at this ⊢
      by_cases e : p.f0 = n
      · rw [if_pos e] at this ⊢
        exact ⟨by omega, fun h => by omega⟩
      · rw [if_neg e] at this ⊢
        exact ⟨this.1, fun h => by have := this.2 h; omega⟩
theorem countV_known {r : List S68} (h : ∀ p ∈ r, p.f0 ∈ namesL) (hc : ∀ n ∈ namesL, countV n r ≤ 1) (n : ByteArray) : countV n r ≤ 1 := by
  by_cases hn : n ∈ namesL
  · exact hc n hn
  · have : countV n r = 0 := (countV_zero n r).2 fun p hp e => hn (e ▸ h p hp)
    omega
theorem setV_i (n v : ByteArray) (c : ClT) : (setV n v c).i = if n = nId then v else c.i := by
  unfold setV
  repeat' split
  all_goals first | rfl | contradiction
theorem setV_s (n v : ByteArray) (c : ClT) : (setV n v c).s = if n = nSecret then v else c.s := by
  unfold setV
  by_cases h : n = nSecret
  · subst h; rfl
  · simp only [if_neg h]
    repeat' split
    all_goals rfl
theorem setV_u (n v : ByteArray) (c : ClT) : (setV n v c).u = if n = nUrl then v else c.u := by
  unfold setV
  by_cases h : n = nUrl
  · subst h; rfl
  · rw [if_neg h, if_neg h]
    repeat' split
    all_goals rfl
theorem setV_pg (n v : ByteArray) (c : ClT) : (setV n v c).pg = if n = nPing then v.toList != [] else c.pg := by
  unfold setV
  by_cases h : n = nPing
  · subst h; rfl
  · rw [if_neg h, if_neg h]
    repeat' split
    all_goals rfl
theorem setV_gr (n v : ByteArray) (c : ClT) : (setV n v c).gr = if n = nGrants then (grantsL (sL v) c.gr).1 else c.gr := by
  unfold setV
  by_cases h : n = nGrants
  · subst h; rfl
  · rw [if_neg h, if_neg h]
    repeat' split
    all_goals rfl
theorem setV_sc (n v : ByteArray) (c : ClT) : (setV n v c).sc = if n = nScope then sL v else c.sc := by
  unfold setV
  by_cases h : n = nScope
  · subst h; rfl
  · rw [if_neg h, if_neg h]
    repeat' split
    all_goals rfl
theorem foldT_i : ∀ (l : List S68) (c : ClT), (foldT l c).i = lastV nId l c.i
  | [], c => rfl
  | p :: r, c => by
    unfold foldT lastV
    rw [foldT_i r, setV_i]
    split <;> rfl
theorem foldT_s : ∀ (l : List S68) (c : ClT), (foldT l c).s = lastV nSecret l c.s
  | [], c => rfl
  | p :: r, c => by
    unfold foldT lastV
    rw [foldT_s r, setV_s]
    split <;> rfl
theorem foldT_u : ∀ (l : List S68) (c : ClT), (foldT l c).u = lastV nUrl l c.u
  | [], c => rfl
  | p :: r, c => by
    unfold foldT lastV
    rw [foldT_u r, setV_u]
    split <;> rfl
theorem foldT_pg : ∀ (l : List S68) (c : ClT) (v : ByteArray), c.pg = (v.toList != []) → (foldT l c).pg = ((lastV nPing l v).toList != [])
  | [], c, v, h => h
  | p :: r, c, v, h => by
    unfold foldT lastV
    by_cases e : p.f0 = nPing
    · rw [if_pos e]; exact foldT_pg r _ _ (by rw [setV_pg, if_pos e])
    · rw [if_neg e]; exact foldT_pg r _ _ (by rw [setV_pg, if_neg e]; exact h)
theorem foldT_sc : ∀ (l : List S68) (c : ClT) (v : ByteArray), c.sc = sL v → (foldT l c).sc = sL (lastV nScope l v)
  | [], c, v, h => h
  | p :: r, c, v, h => by
    unfold foldT lastV
    by_cases e : p.f0 = nScope
    · rw [if_pos e]; exact foldT_sc r _ _ (by rw [setV_sc, if_pos e])
    · rw [if_neg e]; exact foldT_sc r _ _ (by rw [setV_sc, if_neg e]; exact h)
theorem foldT_gr0 : ∀ (l : List S68) (c : ClT), countV nGrants l = 0 → (foldT l c).gr = c.gr
  | [], c, _ => rfl
  | p :: r, c, h => by
    unfold countV at h; unfold foldT
    by_cases e : p.f0 = nGrants
    · rw [if_pos e] at h; omega
    · rw [if_neg e] at h; rw [foldT_gr0 r _ h, setV_gr, if_neg e]
theorem foldT_gr : ∀ (l : List S68) (c : ClT), countV nGrants l ≤ 1 → c.gr = 0 → (foldT l c).gr = (grantsL (sL (lastV nGrants l ⟨#[]⟩)) 0).1
  | [], c, _, h => by rw [show foldT [] c = c from rfl, h]; rfl
  | p :: r, c, hc, h => by
    unfold countV at hc; unfold foldT lastV
    by_cases e : p.f0 = nGrants
    · rw [if_pos e] at hc ⊢
      rw [foldT_gr0 r _ (by omega), setV_gr, if_pos e, lastV_none _ _ _ (by omega), h]
    · rw [if_neg e] at hc ⊢
      exact foldT_gr r _ hc (by rw [setV_gr, if_neg e]; exact h)
theorem sL_nodup (v : ByteArray) (h : (scopesL v.data.toList).2 = 0) : (sL v).Nodup := by
  have hr := rising_nodup (scopesL_facts _ h).1
  unfold sL
  rw [List.Nodup, List.pairwise_map]
  exact hr.imp fun hab e => hab (bs_inj e)
theorem gr_same (l : List ByteArray) (hn : l.Nodup) (h : (grantsL l 0).2 = true) : (grantsL l 0).1 = grSum l 0 := by
  match l, hn, h with
  | [], _, _ => rfl
  | [x], _, h =>
    unfold grantsL at h ⊢; unfold grSum
    by_cases h1 : x.toList = [100, 101, 118, 105, 99, 101]
    · rw [if_pos h1, if_pos h1]; rfl
    · rw [if_neg h1] at h ⊢; rw [if_neg h1]
      by_cases h2 : x.toList = [99, 105, 98, 97]
      · rw [if_pos h2, if_pos h2]; rfl
      · rw [if_neg h2] at h; cases h
  | [x, y], hn, h =>
    have hxy : x ≠ y := by have := (List.pairwise_cons.1 hn).1 y (by simp); exact this
    unfold grantsL at h ⊢; unfold grSum
    by_cases h1 : x.toList = [100, 101, 118, 105, 99, 101]
    · rw [if_pos h1] at h ⊢; rw [if_pos h1]
      have h3 : ¬ y.toList = [100, 101, 118, 105, 99, 101] := fun e => hxy (toList_inj (h1.trans e.symm))
      unfold grantsL at h ⊢; unfold grSum
      rw [if_neg h3] at h ⊢; rw [if_neg h3]
      by_cases h2 : y.toList = [99, 105, 98, 97]
      · rw [if_pos h2, if_pos h2]; rfl
      · rw [if_neg h2] at h; cases h
    · rw [if_neg h1] at h ⊢; rw [if_neg h1]
      by_cases h2 : x.toList = [99, 105, 98, 97]
      · rw [if_pos h2] at h ⊢; rw [if_pos h2]
        unfold grantsL at h ⊢; unfold grSum
        have h4 : ¬ y.toList = [99, 105, 98, 97] := fun e => hxy (toList_inj (h2.trans e.symm))
        by_cases h3 : y.toList = [100, 101, 118, 105, 99, 101]
        · rw [if_pos h3, if_pos h3]; rfl
        · rw [if_neg h3, if_neg h4] at h; cases h
      · rw [if_neg h2] at h; cases h
  | x :: y :: z :: r, hn, h =>
    exfalso
    have a1 := (List.pairwise_cons.1 hn).1 y (by simp)
    have a2 := (List.pairwise_cons.1 hn).1 z (by simp)
    have a3 := (List.pairwise_cons.1 (List.pairwise_cons.1 hn).2).1 z (by simp)
    have key : ∀ (q : ByteArray) (s : List ByteArray) (g : Int), (grantsL (q :: s) g).2 = true → (q.toList = [100, 101, 118, 105, 99, 101] ∨ q.toList = [99, 105, 98, 97]) ∧ ∃ g', (grantsL s g').2 = true := by
      intro q s g hq
      unfold grantsL at hq
      by_cases h1 : q.toList = [100, 101, 118, 105, 99, 101]
      · rw [if_pos h1] at hq; exact ⟨.inl h1, _, hq⟩
      · rw [if_neg h1] at hq
        by_cases h2 : q.toList = [99, 105, 98, 97]
        · rw [if_pos h2] at hq; exact ⟨.inr h2, _, hq⟩
        · rw [if_neg h2] at hq; cases hq
    obtain ⟨k1, g1, h⟩ := key _ _ _ h
    obtain ⟨k2, g2, h⟩ := key _ _ _ h
    obtain ⟨k3, g3, h⟩ := key _ _ _ h
    rcases k1 with k1 | k1 <;> rcases k2 with k2 | k2 <;> rcases k3 with k3 | k3
    all_goals first
      | exact a1 (toList_inj (k1.trans k2.symm))
      | exact a2 (toList_inj (k1.trans k3.symm))
      | exact a3 (toList_inj (k2.trans k3.symm))
theorem fold_ref (l : List S68) (hg : GoodL l []) : foldT l zC = refC l := by
  obtain ⟨h1, h2, h3⟩ := (good_iff l []).1 hg
  have hping : (lastV nPing l ⟨#[]⟩).toList = [] ∨ (lastV nPing l ⟨#[]⟩).toList = [121, 101, 115] := by
    rcases lastV_mem nPing l ⟨#[]⟩ with h | ⟨p, hp, hn, h⟩
    · left; rw [h]; exact e_toList
    · rw [h]
      have := h2 p hp
      rw [hn] at this
      unfold okV at this
      rw [if_pos rfl, Bool.or_eq_true, beq_iff_eq, beq_iff_eq] at this
      exact this
  have hgr : (grantsL (sL (lastV nGrants l ⟨#[]⟩)) 0).1 = grR (lastV nGrants l ⟨#[]⟩) := by
    rcases lastV_mem nGrants l ⟨#[]⟩ with h | ⟨p, hp, hn, h⟩
    · rw [h]; rfl
    · rw [h]
      have := h2 p hp
      rw [hn] at this
      unfold okV at this
      rw [if_neg (by decide), if_pos rfl, Bool.and_eq_true, beq_iff_eq] at this
      unfold grR
      rw [if_pos this.2]
      exact gr_same _ (sL_nodup _ this.2) this.1
  have e1 := foldT_i l zC
  have e2 := foldT_s l zC
  have e3 := foldT_gr l zC (h3 nGrants).1 rfl
  have e4 := foldT_pg l zC ⟨#[]⟩ (by rw [e_toList]; rfl)
  have e5 := foldT_u l zC
  have e6 := foldT_sc l zC ⟨#[]⟩ rfl
  rw [hgr] at e3
  have e4' : (foldT l zC).pg = decide ((lastV nPing l ⟨#[]⟩).toList = [121, 101, 115]) := by
    rw [e4]
    rcases hping with h | h <;> rw [h] <;> rfl
  unfold refC
  cases hx : foldT l zC with
  | mk i s gr pg u sc =>
    rw [hx] at e1 e2 e3 e4' e5 e6
    simp only at e1 e2 e3 e4' e5 e6
    rw [e1, e2, e3, e4', e5, e6]
    rfl
theorem bad_ref (l : List S68) (hg : ¬ GoodL l []) : ¬ refOk l := by
  rintro ⟨h1, h2, h3, h4, h5⟩
  have hc := countV_known h1 h2
  refine hg ((good_iff l []).2 ⟨h1, fun p hp => ?_, fun n => ⟨hc n, fun _ => rfl⟩⟩)
  have hl := lastV_one p.f0 l ⟨#[]⟩ p (hc _) hp rfl
  unfold okV
  by_cases e1 : p.f0 = nPing
  · rw [if_pos e1]
    rw [e1] at hl
    rw [hl] at h4
    rcases h4 with h | h <;> rw [h] <;> rfl
  · rw [if_neg e1]
    by_cases e2 : p.f0 = nGrants
    · rw [if_pos e2]
      rw [e2] at hl
      have hgr : 1 ≤ grR p.f1 := by
        have := h5
        unfold checkL at this
        simp only [Bool.and_eq_true, decide_eq_true_eq] at this
        have h6 := this.1.1.2.1
        unfold refC at h6
        simp only at h6
        rw [hl] at h6
        exact h6
      unfold grR at hgr
      by_cases hs : (scopesL p.f1.data.toList).2 = 0
      · rw [if_pos hs] at hgr
        rw [hs]
        have key : ∀ (s : List ByteArray) (g : Int), 1 ≤ grSum s g → (grantsL s 0).2 = true := by
          intro s
          induction s with
          | nil => intro g _; rfl
          | cons x r ih =>
            intro g hq
            unfold grSum at hq; unfold grantsL
            by_cases q1 : x.toList = [100, 101, 118, 105, 99, 101]
            · rw [if_pos q1] at hq ⊢; rw [grantsL_ok r _ 0]; exact ih _ hq
            · rw [if_neg q1] at hq ⊢
              by_cases q2 : x.toList = [99, 105, 98, 97]
              · rw [if_pos q2] at hq ⊢; rw [grantsL_ok r _ 0]; exact ih _ hq
              · rw [if_neg q2] at hq; omega
        rw [key _ _ hgr]; rfl
      · rw [if_neg hs] at hgr; omega
    · rw [if_neg e2]
      by_cases e3 : p.f0 = nScope
      · rw [if_pos e3]
        rw [e3] at hl
        rw [hl] at h3
        rw [h3]; rfl
      · rw [if_neg e3]
theorem good_ref (l : List S68) (hg : GoodL l []) : refOk l ↔ checkL (refC l) = true := by
  obtain ⟨h1, h2, h3⟩ := (good_iff l []).1 hg
  refine ⟨fun h => h.2.2.2.2, fun h => ⟨h1, fun n _ => (h3 n).1, ?_, ?_, h⟩⟩
  · rcases lastV_mem nScope l ⟨#[]⟩ with h | ⟨p, hp, hn, h⟩
    · rw [h]; rfl
    · rw [h]
      have := h2 p hp
      rw [hn] at this
      unfold okV at this
      rw [if_neg (by decide), if_neg (by decide), if_pos rfl, beq_iff_eq] at this
      exact this
  · rcases lastV_mem nPing l ⟨#[]⟩ with h | ⟨p, hp, hn, h⟩
    · left; rw [h]; exact e_toList
    · rw [h]
      have := h2 p hp
      rw [hn] at this
      unfold okV at this
      rw [if_pos rfl, Bool.or_eq_true, beq_iff_eq, beq_iff_eq] at this
      exact this
theorem line_same (l : List S68) (c : ClT) (b : Bool) (h : lineL l [] zC = some (c, b)) : (b = true → refOk l ∧ c = refC l) ∧ (b = false → ¬ refOk l) := by
  rcases lineL_good l [] zC with ⟨hg, he⟩ | ⟨hg, c', he⟩
  · rw [h] at he
    split at he
    · simp only [Option.some.injEq, Prod.mk.injEq] at he
      rw [fold_ref l hg] at he
      obtain ⟨rfl, rfl⟩ := he
      exact ⟨fun hb => ⟨(good_ref l hg).2 hb, rfl⟩, fun hb hr => (by rw [(good_ref l hg).1 hr] at hb; cases hb)⟩
    · cases he
  · rw [h] at he
    simp only [Option.some.injEq, Prod.mk.injEq] at he
    obtain ⟨rfl, rfl⟩ := he
    exact ⟨fun hb => (by cases hb), fun _ => bad_ref l hg⟩
end Go.Proofs.YtmimipgmhgalaaaGreatDoor.Spec
end
section
namespace Go.Proofs.YtmimipgmhgalaaaGreatDoor.PAll
open Go.RowKit Go.Proofs.YtmimipgmhgalaaaGreatDoorW.PrintWords Go.Proofs.YtmimipgmhgalaaaGreatDoorW.PrintLast Go.Proofs.YtmimipgmhgalaaaGreatDoorW.PrintMore
attribute [local go_sem] max2_int min2_int max_two min_two max_three min_three max_four min_four
set_option linter.unusedVariables false
set_option linter.unusedSimpArgs false
def urlform_One.l0 : Nat → ByteArray → ByteArray → Int → List (S68) → Int → Int → Option (ByteArray × Bool × Int)
 | 0, _, _, _, _, _, _ => none
 | k + 1, x1, x7, x8, x11, x12, x13 => if x13 < x12 then (if 0 ≤ x13 then (if x13 < (x11.length : Int) then (if ((rd_T68 x11 x13).f0).toList = x1.toList then (urlform_One.l0 k x1 ((rd_T68 x11 x13).f1) (wrap64 (x8 + 1)) x11 x12 (wrap64 (x13 + 1))) else (urlform_One.l0 k x1 x7 x8 x11 x12 (wrap64 (x13 + 1)))) else (none)) else (none)) else (if x8 > 1 then (some ((⟨#[]⟩ : ByteArray), false, 34)) else (some (x7, (x7.toList != ([] : List UInt8)), 0)))
def urlform_One.f (k : Nat) (l0 : List (S68)) (a1 : ByteArray) : Option (ByteArray × Bool × Int) := urlform_One.l0 k a1 (⟨#[]⟩ : ByteArray) 0 l0 (l0.length : Int) 0
set_option maxHeartbeats 8000000 in
set_option maxRecDepth 100000 in
theorem urlform_One.calls (k : Nat) (A0 : Option Addr) (c0 : Nat) (l0 : List (S68)) (a1 : ByteArray) (r1 : ByteArray) (r2 : Bool) (r3 : Int) (w : World) (hr0 : Kd.C k68 w A0 l0.length l0) (hc0 : l0.length ≤ c0) (h : urlform_One.f k l0 a1 = some (r1, r2, r3)) :
 Calls Tryz.prog 69 #[.slice A0 l0.length c0, .string a1] w fun e w' => e = .returned (.tuple #[.string r1, .bool r2, .int .i64 r3]) ∧ Below w.heap.size w w' := by
 have hu68 := Tryz.underlying68
 have HR0 := Aside0.mk hr0
 have HC0 := Aside0.mk hc0
 clear hr0 hc0
 have HB := Aside0.mk (Below.refl w.heap.size w)
 have H : (urlform_One.l0 k a1 (⟨#[]⟩ : ByteArray) 0 l0 (l0.length : Int) 0) = some (r1, r2, r3) := h
 clear h
 have H' := Aside0.mk H
 clear H
 go_enter Tryz.func69, Tryz.ntmps69
 go_wp2
 go_loopg [7, 8, 13] k (fun kq v7 v8 v13 w' => ∃ (x7_1 : ByteArray) (x8_1 : Int) (x13_1 : Int), v7 = .string x7_1 ∧ v8 = .int .i64 x8_1 ∧ v13 = .int .i64 x13_1 ∧ Aside0 (urlform_One.l0 kq a1 x7_1 x8_1 l0 (l0.length : Int) x13_1 = some (r1, r2, r3)) ∧ Aside0 (kq ≤ k) ∧ Aside0 (Below w.heap.size w w'))
 case atStart => exact ⟨((⟨#[]⟩ : ByteArray)), (0), (0), rfl, rfl, rfl, H', ⟨Nat.le_refl _⟩, ⟨HB.out⟩⟩
 case round =>
  clear H'
  obtain ⟨x7_1, x8_1, x13_1, rfl, rfl, rfl, HA, HK1, HB⟩ := hrel
  cases gk with
  | zero => exact absurd HA.out (by simp [urlform_One.l0])
  | succ k1 =>
   have H := HA.out
   clear HA
   simp only [urlform_One.l0] at H
   by_cases c3 : x13_1 < (l0.length : Int)
   · rw [if_pos c3] at H
     have c3b0 : decide (x13_1 < (l0.length : Int)) = true := decide_eq_true c3
     clear c3
     by_cases c4 : 0 ≤ x13_1
     · rw [if_pos c4] at H
       have c4b0 : decide (0 ≤ x13_1) = true := decide_eq_true c4
       clear c4
       by_cases c5 : x13_1 < (l0.length : Int)
       · rw [if_pos c5] at H
         have c5b0 : decide (x13_1 < (l0.length : Int)) = true := decide_eq_true c5
         clear c5
         by_cases c6 : ((rd_T68 l0 x13_1).f0).toList = a1.toList
         · rw [if_pos c6] at H
           have c6b0 : (((rd_T68 l0 x13_1).f0).toList == a1.toList) = true := beq_iff_eq.mpr c6
           have c6b1 : (((rd_T68 l0 x13_1).f0).toList != a1.toList) = false := bne_eq_false_iff_eq.mpr c6
           clear c6
           have H' := Aside0.mk H
           clear H
           have p222 : 0 ≤ (x13_1 : Int) := of_decide_eq_true (by assumption)
           have q222 : x13_1 < (l0.length : Int) := of_decide_eq_true (by assumption)
           obtain ⟨ad222, e222, hx222_0, hx222_1⟩ := at_T68 HR0.out x13_1 p222 q222
           cases e222
           replace hx222_0 := (HB.out.cell (World.block_lt_of_cell? w _ hx222_0)).trans hx222_0
           replace hx222_1 := (HB.out.cell (World.block_lt_of_cell? w _ hx222_1)).trans hx222_1
           replace p222 := eq_true p222
           replace q222 := eq_true q222
           go_wp2_with (first | ((with_reducible refine gate_dst (N := 10) rfl ?_); refine box_event ?hg (N := 10) ?hd (cs := #[.string (⟨#[]⟩ : ByteArray), .string (⟨#[]⟩ : ByteArray)]) (t := 68) ?hr ?_; (case hd => rfl); (case hg => rfl); (case hr => (go_simp; done)); intro gb223 hg w7 hbox hb; have BK223 := Aside0.mk hbox; have GW223 := Aside0.mk ((by rw [hg]; exact (below_size HB.out) : w.heap.size ≤ gb223)); have GE223 := Aside0.mk ((by rw [hg]; exact (below_size HB.out) : w.heap.size ≤ gb223)); replace HB := Aside0.mk (below_step HB.out hb); clear hb hbox hg; obtain ⟨hcz8_0, hcz8_1, hfz8_0, hfz8_1⟩ := cz2_ BK223.out))
           go_roundg k1
           case measure => have := HK1.out; omega
           case rel => exact ⟨((rd_T68 l0 x13_1).f1), (wrap64 (x8_1 + 1)), (wrap64 (x13_1 + 1)), rfl, rfl, rfl, H', ⟨by have := HK1.out; omega⟩, ⟨by (repeat (with_reducible first | exact HB.out | refine below_set ?_ GE223.out))⟩⟩
         · rw [if_neg c6] at H
           have c6b0 : (((rd_T68 l0 x13_1).f0).toList == a1.toList) = false := beq_eq_false_iff_ne.mpr c6
           have c6b1 : (((rd_T68 l0 x13_1).f0).toList != a1.toList) = true := bne_iff_ne.mpr c6
           have H' := Aside0.mk H
           clear H
           have p222 : 0 ≤ (x13_1 : Int) := of_decide_eq_true (by assumption)
           have q222 : x13_1 < (l0.length : Int) := of_decide_eq_true (by assumption)
           obtain ⟨ad222, e222, hx222_0, hx222_1⟩ := at_T68 HR0.out x13_1 p222 q222
           cases e222
           replace hx222_0 := (HB.out.cell (World.block_lt_of_cell? w _ hx222_0)).trans hx222_0
           replace hx222_1 := (HB.out.cell (World.block_lt_of_cell? w _ hx222_1)).trans hx222_1
           replace p222 := eq_true p222
           replace q222 := eq_true q222
           go_wp2_with (first | ((with_reducible refine gate_dst (N := 10) rfl ?_); refine box_event ?hg (N := 10) ?hd (cs := #[.string (⟨#[]⟩ : ByteArray), .string (⟨#[]⟩ : ByteArray)]) (t := 68) ?hr ?_; (case hd => rfl); (case hg => rfl); (case hr => (go_simp; done)); intro gb223 hg w9 hbox hb; have BK223 := Aside0.mk hbox; have GW223 := Aside0.mk ((by rw [hg]; exact (below_size HB.out) : w.heap.size ≤ gb223)); have GE223 := Aside0.mk ((by rw [hg]; exact (below_size HB.out) : w.heap.size ≤ gb223)); replace HB := Aside0.mk (below_step HB.out hb); clear hb hbox hg; obtain ⟨hcz10_0, hcz10_1, hfz10_0, hfz10_1⟩ := cz2_ BK223.out))
           go_roundg k1
           case measure => have := HK1.out; omega
           case rel => exact ⟨(x7_1), (x8_1), (wrap64 (x13_1 + 1)), rfl, rfl, rfl, H', ⟨by have := HK1.out; omega⟩, ⟨by (repeat (with_reducible first | exact HB.out | refine below_set ?_ GE223.out))⟩⟩
       · rw [if_neg c5] at H
         exact absurd H (by simp)
     · rw [if_neg c4] at H
       exact absurd H (by simp)
   · rw [if_neg c3] at H
     have c3b0 : decide (x13_1 < (l0.length : Int)) = false := decide_eq_false c3
     clear c3
     by_cases c11 : x8_1 > 1
     · rw [if_pos c11] at H
       have c11b0 : decide (1 < x8_1) = true := decide_eq_true c11
       clear c11
       simp only [Option.some.injEq, Prod.mk.injEq] at H
       obtain ⟨rfl, rfl, rfl⟩ := H
       go_wp2
       go_ret3
       exact ⟨by (rfl), by (with_reducible exact HB.out)⟩
     · rw [if_neg c11] at H
       have c11b0 : decide (1 < x8_1) = false := decide_eq_false c11
       clear c11
       simp only [Option.some.injEq, Prod.mk.injEq] at H
       obtain ⟨rfl, rfl, rfl⟩ := H
       go_wp2
       go_ret3
       exact ⟨by (simp; (generalize ByteArray.toList _ = z_); cases z_ <;> rfl), by (with_reducible exact HB.out)⟩
end Go.Proofs.YtmimipgmhgalaaaGreatDoor.PAll
end
section
namespace Go.Proofs.YtmimipgmhgalaaaGreatDoor.PAll
open Go.RowKit Go.Proofs.YtmimipgmhgalaaaGreatDoorW.PrintWords Go.Proofs.YtmimipgmhgalaaaGreatDoorW.PrintLast Go.Proofs.YtmimipgmhgalaaaGreatDoorW.PrintMore
attribute [local go_sem] max2_int min2_int max_two min_two max_three min_three max_four min_four
set_option linter.unusedVariables false
set_option linter.unusedSimpArgs false
def wicketref03_One.l0 : Nat → List (S121) → ByteArray → Int → ByteArray → Int → Option (ByteArray × Bool × Int)
 | 0, _, _, _, _, _ => none
 | k + 1, x0, x1, x7, x8, x9 => if x9 < (x0.length : Int) then (if 0 ≤ x9 then (if ((rd_T121 x0 x9).f0).toList = x1.toList then (wicketref03_One.l0 k x0 x1 (wrap64 (x7 + 1)) ((rd_T121 x0 x9).f1) (wrap64 (x9 + 1))) else (wicketref03_One.l0 k x0 x1 x7 x8 (wrap64 (x9 + 1)))) else (none)) else (if x7 > 1 then (some ((⟨#[]⟩ : ByteArray), false, 34)) else (some (x8, (x8.toList != ([] : List UInt8)), 0)))
def wicketref03_One.f (k : Nat) (l0 : List (S121)) (a1 : ByteArray) : Option (ByteArray × Bool × Int) := wicketref03_One.l0 k l0 a1 0 (⟨#[]⟩ : ByteArray) 0
set_option maxHeartbeats 8000000 in
set_option maxRecDepth 100000 in
theorem wicketref03_One.calls (k : Nat) (A0 : Option Addr) (c0 : Nat) (l0 : List (S121)) (a1 : ByteArray) (r1 : ByteArray) (r2 : Bool) (r3 : Int) (w : World) (hr0 : Kd.C k121 w A0 l0.length l0) (hc0 : l0.length ≤ c0) (h : wicketref03_One.f k l0 a1 = some (r1, r2, r3)) :
 Calls Tryz.prog 39 #[.slice A0 l0.length c0, .string a1] w fun e w' => e = .returned (.tuple #[.string r1, .bool r2, .int .i64 r3]) ∧ Drawn0 w w' := by
 have HR0 := Aside0.mk hr0
 have HC0 := Aside0.mk hc0
 clear hr0 hc0
 have H : (wicketref03_One.l0 k l0 a1 0 (⟨#[]⟩ : ByteArray) 0) = some (r1, r2, r3) := h
 clear h
 have H' := Aside0.mk H
 clear H
 go_enter Tryz.func39, Tryz.ntmps39
 go_wp2
 go_loopg [7, 8, 9] k (fun kq v7 v8 v9 w' => ∃ (x7_1 : Int) (x8_1 : ByteArray) (x9_1 : Int), v7 = .int .i64 x7_1 ∧ v8 = .string x8_1 ∧ v9 = .int .i64 x9_1 ∧ Aside0 (wicketref03_One.l0 kq l0 a1 x7_1 x8_1 x9_1 = some (r1, r2, r3)) ∧ Aside0 (kq ≤ k) ∧ Drawn0 w w')
 case atStart => exact ⟨(0), ((⟨#[]⟩ : ByteArray)), (0), rfl, rfl, rfl, H', ⟨Nat.le_refl _⟩, by repeat (exact Drawn0.refl _)⟩
 case round =>
  clear H'
  obtain ⟨x7_1, x8_1, x9_1, rfl, rfl, rfl, HA, HK1, ⟨m1, rfl⟩⟩ := hrel
  cases gk with
  | zero => exact absurd HA.out (by simp [wicketref03_One.l0])
  | succ k1 =>
   have H := HA.out
   clear HA
   simp only [wicketref03_One.l0] at H
   by_cases c3 : x9_1 < (l0.length : Int)
   · rw [if_pos c3] at H
     have c3b0 : decide (x9_1 < (l0.length : Int)) = true := decide_eq_true c3
     clear c3
     by_cases c4 : 0 ≤ x9_1
     · rw [if_pos c4] at H
       have c4b0 : decide (0 ≤ x9_1) = true := decide_eq_true c4
       clear c4
       by_cases c5 : ((rd_T121 l0 x9_1).f0).toList = a1.toList
       · rw [if_pos c5] at H
         have c5b0 : (((rd_T121 l0 x9_1).f0).toList == a1.toList) = true := beq_iff_eq.mpr c5
         have c5b1 : (((rd_T121 l0 x9_1).f0).toList != a1.toList) = false := bne_eq_false_iff_eq.mpr c5
         clear c5
         have H' := Aside0.mk H
         clear H
         have p257 : 0 ≤ (x9_1 : Int) := of_decide_eq_true (by assumption)
         have q257 : x9_1 < (l0.length : Int) := of_decide_eq_true (by assumption)
         obtain ⟨ad257, e257, hx257_0, hx257_1⟩ := at_T121 HR0.out x9_1 p257 q257
         cases e257
         replace p257 := eq_true p257
         replace q257 := eq_true q257
         have p258 : 0 ≤ (x9_1 : Int) := of_decide_eq_true (by assumption)
         have q258 : x9_1 < (l0.length : Int) := of_decide_eq_true (by assumption)
         obtain ⟨ad258, e258, hx258_0, hx258_1⟩ := at_T121 HR0.out x9_1 p258 q258
         obtain rfl : ad257 = ad258 := (by injection e258)
         replace p258 := eq_true p258
         replace q258 := eq_true q258
         go_wp2
         go_roundg k1
         case measure => have := HK1.out; omega
         case rel => exact ⟨(wrap64 (x7_1 + 1)), ((rd_T121 l0 x9_1).f1), (wrap64 (x9_1 + 1)), rfl, rfl, rfl, H', ⟨by have := HK1.out; omega⟩, by repeat (first | exact Drawn0.refl _ | apply Drawn0.step)⟩
       · rw [if_neg c5] at H
         have c5b0 : (((rd_T121 l0 x9_1).f0).toList == a1.toList) = false := beq_eq_false_iff_ne.mpr c5
         have c5b1 : (((rd_T121 l0 x9_1).f0).toList != a1.toList) = true := bne_iff_ne.mpr c5
         have H' := Aside0.mk H
         clear H
         have p257 : 0 ≤ (x9_1 : Int) := of_decide_eq_true (by assumption)
         have q257 : x9_1 < (l0.length : Int) := of_decide_eq_true (by assumption)
         obtain ⟨ad257, e257, hx257_0, hx257_1⟩ := at_T121 HR0.out x9_1 p257 q257
         cases e257
         replace p257 := eq_true p257
         replace q257 := eq_true q257
         go_wp2
         go_roundg k1
         case measure => have := HK1.out; omega
         case rel => exact ⟨(x7_1), (x8_1), (wrap64 (x9_1 + 1)), rfl, rfl, rfl, H', ⟨by have := HK1.out; omega⟩, by repeat (first | exact Drawn0.refl _ | apply Drawn0.step)⟩
     · rw [if_neg c4] at H
       exact absurd H (by simp)
   · rw [if_neg c3] at H
     have c3b0 : decide (x9_1 < (l0.length : Int)) = false := decide_eq_false c3
     clear c3
     by_cases c6 : x7_1 > 1
     · rw [if_pos c6] at H
       have c6b0 : decide (1 < x7_1) = true := decide_eq_true c6
       clear c6
       simp only [Option.some.injEq, Prod.mk.injEq] at H
       obtain ⟨rfl, rfl, rfl⟩ := H
       go_wp2
       go_ret3
       exact ⟨by (rfl), by repeat (first | exact Drawn0.refl _ | apply Drawn0.step)⟩
     · rw [if_neg c6] at H
       have c6b0 : decide (1 < x7_1) = false := decide_eq_false c6
       clear c6
       simp only [Option.some.injEq, Prod.mk.injEq] at H
       obtain ⟨rfl, rfl, rfl⟩ := H
       go_wp2
       go_ret3
       exact ⟨by (simp; (generalize ByteArray.toList _ = z_); cases z_ <;> rfl), by repeat (first | exact Drawn0.refl _ | apply Drawn0.step)⟩
mutual
def wicketref03_Within.l0 : Nat → List ByteArray → List ByteArray → Int → Option (Bool)
 | 0, _, _, _ => none
 | k + 1, x0, x1, x5 => if x5 < (x0.length : Int) then (wicketref03_Within.l1 k x0 x1 x5 false 0) else (some true)
def wicketref03_Within.l1 : Nat → List ByteArray → List ByteArray → Int → Bool → Int → Option (Bool)
 | 0, _, _, _, _, _ => none
 | k + 1, x0, x1, x5, x6, x7 => if x7 < (x1.length : Int) then (if x6 = true then (wicketref03_Within.l1 k x0 x1 x5 true (wrap64 (x7 + 1))) else (if 0 ≤ x7 then (if 0 ≤ x5 then (if x5 < (x0.length : Int) then (wicketref03_Within.l1 k x0 x1 x5 ((rdOf ByteArray.empty x1 x7).toList == (rdOf ByteArray.empty x0 x5).toList) (wrap64 (x7 + 1))) else (none)) else (none)) else (none))) else (if x6 = true then (wicketref03_Within.l0 k x0 x1 (wrap64 (x5 + 1))) else (some false))
end
def wicketref03_Within.f (k : Nat) (l0 : List ByteArray) (l1 : List ByteArray) : Option (Bool) := wicketref03_Within.l0 k l0 l1 0
set_option maxHeartbeats 8000000 in
set_option maxRecDepth 100000 in
theorem wicketref03_Within.calls (k : Nat) (A0 : Option Addr) (c0 : Nat) (l0 : List ByteArray) (A1 : Option Addr) (c1 : Nat) (l1 : List ByteArray) (r : Bool) (w : World) (hr0 : Kd.C Kd.string w A0 l0.length l0) (hc0 : l0.length ≤ c0) (hr1 : Kd.C Kd.string w A1 l1.length l1) (hc1 : l1.length ≤ c1) (h : wicketref03_Within.f k l0 l1 = some r) :
 Calls Tryz.prog 44 #[.slice A0 l0.length c0, .slice A1 l1.length c1] w fun e w' => e = .returned (.bool r) ∧ Drawn0 w w' := by
 have HR0 := Aside0.mk hr0
 have HC0 := Aside0.mk hc0
 clear hr0 hc0
 have HR1 := Aside0.mk hr1
 have HC1 := Aside0.mk hc1
 clear hr1 hc1
 have H : (wicketref03_Within.l0 k l0 l1 0) = some r := h
 clear h
 have H' := Aside0.mk H
 clear H
 go_enter Tryz.func44, Tryz.ntmps44
 go_wp2
 repeat (go_quiet (fail); try go_wp2)
 go_loopg [5] k (fun kq v5 w' => ∃ (x5_1 : Int), v5 = .int .i64 x5_1 ∧ Aside0 (wicketref03_Within.l0 kq l0 l1 x5_1 = some r) ∧ Aside0 (kq ≤ k) ∧ Drawn0 w w')
 case atStart => exact ⟨(0), rfl, H', ⟨Nat.le_refl _⟩, by repeat (exact Drawn0.refl _)⟩
 case round =>
  clear H'
  obtain ⟨x5_1, rfl, HA, HK1, ⟨m1, rfl⟩⟩ := hrel
  cases gk with
  | zero => exact absurd HA.out (by simp [wicketref03_Within.l0])
  | succ k1 =>
   have H := HA.out
   clear HA
   simp only [wicketref03_Within.l0] at H
   by_cases c3 : x5_1 < (l0.length : Int)
   · rw [if_pos c3] at H
     have c3b0 : decide (x5_1 < (l0.length : Int)) = true := decide_eq_true c3
     clear c3
     have H' := Aside0.mk H
     clear H
     go_wp2
     repeat (go_quiet (fail); try go_wp2)
     go_loopg [6, 7] k1 (fun kq v6 v7 w' => ∃ (x6_2 : Bool) (x7_2 : Int), v6 = .bool x6_2 ∧ v7 = .int .i64 x7_2 ∧ Aside0 (wicketref03_Within.l1 kq l0 l1 x5_1 x6_2 x7_2 = some r) ∧ Aside0 (kq ≤ k1) ∧ Drawn0 w w')
     case atStart => exact ⟨(false), (0), rfl, rfl, H', ⟨Nat.le_refl _⟩, by repeat (first | exact Drawn0.refl _ | apply Drawn0.step)⟩
     case round =>
      clear H' c3b0
      obtain ⟨x6_2, x7_2, rfl, rfl, HA, HK2, ⟨m2, rfl⟩⟩ := hrel
      cases gk with
      | zero => exact absurd HA.out (by simp [wicketref03_Within.l1])
      | succ k2 =>
       have H := HA.out
       clear HA
       simp only [wicketref03_Within.l1] at H
       by_cases c4 : x7_2 < (l1.length : Int)
       · rw [if_pos c4] at H
         have c4b0 : decide (x7_2 < (l1.length : Int)) = true := decide_eq_true c4
         clear c4
         by_cases c5 : x6_2 = true
         · subst c5
           have H1 : (wicketref03_Within.l1 k2 l0 l1 x5_1 true (wrap64 (x7_2 + 1))) = some r := by rw [if_pos rfl] at H; exact H
           clear H
           have H := H1
           clear H1
           have H' := Aside0.mk H
           clear H
           go_wp2
           repeat (go_quiet (fail); try go_wp2)
           go_roundg k2
           case measure => have := HK1.out; have := HK2.out; omega
           case rel => exact ⟨(true), (wrap64 (x7_2 + 1)), rfl, rfl, H', ⟨by have := HK1.out; have := HK2.out; omega⟩, by repeat (first | exact Drawn0.refl _ | apply Drawn0.step)⟩
         · replace c5 := Bool.eq_false_iff.mpr c5
           subst c5
           have H1 : (if 0 ≤ x7_2 then (if 0 ≤ x5_1 then (if x5_1 < (l0.length : Int) then (wicketref03_Within.l1 k2 l0 l1 x5_1 ((rdOf ByteArray.empty l1 x7_2).toList == (rdOf ByteArray.empty l0 x5_1).toList) (wrap64 (x7_2 + 1))) else (none)) else (none)) else (none)) = some r := by rw [if_neg (show ¬ (false = true) by decide)] at H; exact H
           clear H
           have H := H1
           clear H1
           by_cases c6 : 0 ≤ x7_2
           · rw [if_pos c6] at H
             have c6b0 : decide (0 ≤ x7_2) = true := decide_eq_true c6
             clear c6
             by_cases c7 : 0 ≤ x5_1
             · rw [if_pos c7] at H
               have c7b0 : decide (0 ≤ x5_1) = true := decide_eq_true c7
               clear c7
               by_cases c8 : x5_1 < (l0.length : Int)
               · rw [if_pos c8] at H
                 have c8b0 : decide (x5_1 < (l0.length : Int)) = true := decide_eq_true c8
                 clear c8
                 have H' := Aside0.mk H
                 clear H
                 have p259 : 0 ≤ (x7_2 : Int) := of_decide_eq_true (by assumption)
                 have q259 : x7_2 < (l1.length : Int) := of_decide_eq_true (by assumption)
                 obtain ⟨ad259, e259, hx259_0⟩ := Kd.at_string HR1.out x7_2 p259 q259
                 cases e259
                 replace p259 := eq_true p259
                 replace q259 := eq_true q259
                 have p260 : 0 ≤ (x5_1 : Int) := of_decide_eq_true (by assumption)
                 have q260 : x5_1 < (l0.length : Int) := of_decide_eq_true (by assumption)
                 obtain ⟨ad260, e260, hx260_0⟩ := Kd.at_string HR0.out x5_1 p260 q260
                 cases e260
                 replace p260 := eq_true p260
                 replace q260 := eq_true q260
                 go_wp2
                 repeat (go_quiet (fail); try go_wp2)
                 go_roundg k2
                 case measure => have := HK1.out; have := HK2.out; omega
                 case rel => exact ⟨(((rdOf ByteArray.empty l1 x7_2).toList == (rdOf ByteArray.empty l0 x5_1).toList)), (wrap64 (x7_2 + 1)), rfl, rfl, H', ⟨by have := HK1.out; have := HK2.out; omega⟩, by repeat (first | exact Drawn0.refl _ | apply Drawn0.step)⟩
               · rw [if_neg c8] at H
                 exact absurd H (by simp)
             · rw [if_neg c7] at H
               exact absurd H (by simp)
           · rw [if_neg c6] at H
             exact absurd H (by simp)
       · rw [if_neg c4] at H
         have c4b0 : decide (x7_2 < (l1.length : Int)) = false := decide_eq_false c4
         clear c4
         by_cases c9 : x6_2 = true
         · subst c9
           have H1 : (wicketref03_Within.l0 k2 l0 l1 (wrap64 (x5_1 + 1))) = some r := by rw [if_pos rfl] at H; exact H
           clear H
           have H := H1
           clear H1
           have H' := Aside0.mk H
           clear H
           go_wp2
           repeat (go_quiet (fail); try go_wp2)
           go_roundg k2
           case measure => have := HK1.out; have := HK2.out; omega
           case rel => exact ⟨(wrap64 (x5_1 + 1)), rfl, H', ⟨by have := HK1.out; have := HK2.out; omega⟩, by repeat (first | exact Drawn0.refl _ | apply Drawn0.step)⟩
         · replace c9 := Bool.eq_false_iff.mpr c9
           subst c9
           have H1 : (some false) = some r := by rw [if_neg (show ¬ (false = true) by decide)] at H; exact H
           clear H
           have H := H1
           clear H1
           obtain rfl := Option.some.inj H
           go_wp2
           repeat (go_quiet (fail); try go_wp2)
           go_ret
           exact ⟨by (rfl), by repeat (first | exact Drawn0.refl _ | apply Drawn0.step)⟩
   · rw [if_neg c3] at H
     have c3b0 : decide (x5_1 < (l0.length : Int)) = false := decide_eq_false c3
     clear c3
     obtain rfl := Option.some.inj H
     go_wp2
     repeat (go_quiet (fail); try go_wp2)
     go_ret
     exact ⟨by (rfl), by repeat (first | exact Drawn0.refl _ | apply Drawn0.step)⟩
end Go.Proofs.YtmimipgmhgalaaaGreatDoor.PAll
end
section
namespace Go.Proofs.YtmimipgmhgalaaaGreatDoor.Pure
open Go.RowKit Go.Proofs.YtmimipgmhgalaaaGreatDoorW.PrintWords Go.Proofs.YtmimipgmhgalaaaGreatDoor.Plain Go.Proofs.YtmimipgmhgalaaaGreatDoor.Spec Go.Proofs.YtmimipgmhgalaaaGreatDoor.PAll
set_option linter.unusedSimpArgs false
set_option linter.unusedVariables false
def to61 (p : S68) : S121 := ⟨p.f0, p.f1⟩
def foldO (name : ByteArray) : List S68 → ByteArray → Nat → ByteArray × Bool × Int
  | [], v, n => if n > 1 then (⟨#[]⟩, false, 34) else (v, v.toList != [], 0)
  | p :: r, v, n => if p.f0.toList = name.toList then foldO name r p.f1 (n + 1) else foldO name r v n
theorem refone_ev (l : List S68) (hl : l.length ≤ 4000000000000) (name : ByteArray) : ∀ (m i n : Nat) (v : ByteArray), i + m = l.length → n ≤ i → Ev (fun k => wicketref03_One.l0 k (l.map to61) name (n : Int) v (i : Int)) (foldO name (l.drop i) v n) := by
  have hal : (l.map to61).length = l.length := List.length_map ..
  intro m
  induction m with
  | zero =>
    intro i n v hi hn
    rw [List.drop_eq_nil_of_le (by omega)]
    unfold foldO
    refine Ev.step (f := fun _ => some _) (fun k => ?_) (Ev.now _)
    simp only [wicketref03_One.l0]
    rw [if_neg (by omega)]
    by_cases h : n > 1
    · rw [if_pos h, if_pos (by omega)]
    · rw [if_neg h, if_neg (by omega)]
  | succ m ih =>
    intro i n v hi hn
    have hlt : i < l.length := by omega
    have hrd : rd_T121 (l.map to61) (i : Int) = to61 l[i] := by simp [rd_T121, hlt]
    rw [drop_cons l i hlt]
    unfold foldO
    have ih1 := ih (i + 1)
    generalize l[i] = p at *
    by_cases h : p.f0.toList = name.toList
    · rw [if_pos h]
      have h' : (to61 p).f0.toList = name.toList := h
      refine Ev.step (fun k => ?_) (ih1 (n + 1) p.f1 (by omega) (by omega))
      simp only [wicketref03_One.l0]
      rw [if_pos (by omega), if_pos (by omega), hrd, if_pos h', w64 (by omega) (by omega), w64 (by omega) (by omega)]
      rfl
    · rw [if_neg h]
      have h' : ¬ (to61 p).f0.toList = name.toList := h
      refine Ev.step (fun k => ?_) (ih1 n v (by omega) (by omega))
      simp only [wicketref03_One.l0]
      rw [if_pos (by omega), if_pos (by omega), hrd, if_neg h', w64 (by omega) (by omega)]
      rfl
end Go.Proofs.YtmimipgmhgalaaaGreatDoor.Pure
end
section
namespace Go.Proofs.YtmimipgmhgalaaaGreatDoor.Pure
open Go.RowKit Go.Proofs.YtmimipgmhgalaaaGreatDoorW.PrintWords Go.Proofs.YtmimipgmhgalaaaGreatDoor.Plain Go.Proofs.YtmimipgmhgalaaaGreatDoor.Spec Go.Proofs.YtmimipgmhgalaaaGreatDoor.PAll
set_option linter.unusedSimpArgs false
set_option linter.unusedVariables false
attribute [local instance] Classical.propDecidable
theorem ref_inner (l all : List ByteArray) (hl : l.length ≤ 8796093021952) (ha : all.length ≤ 8796093021952) (i : Nat) (hi : i < l.length) (r : Bool)
    (hr : l[i] ∈ all → Ev (fun k => wicketref03_Within.l0 k l all ((i + 1 : Nat) : Int)) r) (hr' : l[i] ∉ all → r = false) : ∀ (m j : Nat) (b : Bool), j + m = all.length →
    (l[i] ∈ all ↔ b = true ∨ l[i] ∈ all.drop j) → Ev (fun k => wicketref03_Within.l1 k l all (i : Int) b (j : Int)) r := by
  intro m
  induction m with
  | zero =>
    intro j b hj hm
    rw [List.drop_eq_nil_of_le (by omega)] at hm
    cases b with
    | true =>
      refine Ev.step (fun k => ?_) (hr (hm.2 (.inl rfl)))
      simp only [wicketref03_Within.l1]; rw [if_neg (by omega), if_pos trivial, w64 (by omega) (by omega)]; rfl
    | false =>
      have hno : l[i] ∉ all := fun h => by simpa using hm.1 h
      refine Ev.step (f := fun _ => some false) (fun k => ?_) (Ev.eq (Ev.now _) (hr' hno).symm)
      simp only [wicketref03_Within.l1]; rw [if_neg (by omega)]; rfl
  | succ m ih =>
    intro j b hj hm
    have hlt : j < all.length := by omega
    cases b with
    | true =>
      refine Ev.step (fun k => ?_) (ih (j + 1) true (by omega) ⟨fun _ => .inl rfl, fun _ => hm.2 (.inl rfl)⟩)
      simp only [wicketref03_Within.l1]; rw [if_pos (by omega), if_pos trivial, w64 (by omega) (by omega)]; rfl
    | false =>
      refine Ev.step (fun k => ?_) (ih (j + 1) (decide (all[j] = l[i])) (by omega) ?_)
      · simp only [wicketref03_Within.l1]
        rw [if_pos (by omega), if_neg (by simp), if_pos (by omega), if_pos (by omega), if_pos (by omega), rdOf_get _ _ _ hlt, rdOf_get _ _ _ hi, toList_beq, w64 (by omega) (by omega)]; rfl
      · rw [hm, drop_cons _ _ hlt, List.mem_cons]
        simp [eq_comm]
theorem rwithin_ev (l all : List ByteArray) (hl : l.length ≤ 8796093021952) (ha : all.length ≤ 8796093021952) : ∀ (m i : Nat), i + m = l.length →
    Ev (fun k => wicketref03_Within.l0 k l all (i : Int)) (decide (∀ s, s ∈ l.drop i → s ∈ all)) := by
  intro m
  induction m with
  | zero =>
    intro i hi
    refine Ev.step (f := fun _ => some true) (fun k => ?_) (Ev.eq (Ev.now _) ?_)
    · simp only [wicketref03_Within.l0]; rw [if_neg (by omega)]
    · rw [List.drop_eq_nil_of_le (by omega)]; simp
  | succ m ih =>
    intro i hi
    have hlt : i < l.length := by omega
    refine Ev.step (f := fun k => wicketref03_Within.l1 k l all (i : Int) false 0) (fun k => ?_) ?_
    · simp only [wicketref03_Within.l0]; rw [if_pos (by omega)]
    · refine ref_inner l all hl ha i hlt _ (fun hx => Ev.eq (ih (i + 1) (by omega)) ?_) (fun hx => ?_) all.length 0 false (by omega) (by simp)
      · rw [decide_eq_decide, drop_cons _ _ hlt]; simp only [List.mem_cons, forall_eq_or_imp, hx, true_and]
      · rw [drop_cons _ _ hlt]; simp only [List.mem_cons, forall_eq_or_imp, hx, false_and, decide_false]
end Go.Proofs.YtmimipgmhgalaaaGreatDoor.Pure
end
section
namespace Go.Proofs.YtmimipgmhgalaaaGreatDoor.PAll
open Go.RowKit Go.Proofs.YtmimipgmhgalaaaGreatDoorW.PrintWords Go.Proofs.YtmimipgmhgalaaaGreatDoorW.PrintLast Go.Proofs.YtmimipgmhgalaaaGreatDoorW.PrintMore
attribute [local go_sem] max2_int min2_int max_two min_two max_three min_three max_four min_four
set_option linter.unusedVariables false
set_option linter.unusedSimpArgs false
mutual
def wicketref03_digit.j0 : Nat → Int → Bool → Option (Int)
 | 0, _, _ => none
 | k + 1, x0, x3 => if x3 = true then (some ((x0 - 48) % 256)) else (if x0 ≥ 97 then (wicketref03_digit.j1 k x0 (decide (x0 ≤ 102))) else (wicketref03_digit.j1 k x0 false))
def wicketref03_digit.j1 : Nat → Int → Bool → Option (Int)
 | 0, _, _ => none
 | k + 1, x0, x13 => if x13 = true then (some (((x0 - 97) % 256) + 10)) else (if x0 ≥ 65 then (if x0 ≤ 70 then (some (((x0 - 65) % 256) + 10)) else (some (-1))) else (some (-1)))
end
def wicketref03_digit.f (k : Nat) (a0 : Int) : Option (Int) := if a0 ≥ 48 then (wicketref03_digit.j0 k a0 (decide (a0 ≤ 57))) else (wicketref03_digit.j0 k a0 false)
set_option maxHeartbeats 8000000 in
set_option maxRecDepth 100000 in
theorem wicketref03_digit.calls (k : Nat) (a0 : Int) (r : Int) (w : World) (h : wicketref03_digit.f k a0 = some r) :
 Calls Tryz.prog 108 #[.int .u8 a0] w fun e w' => e = .returned (.int .i64 r) ∧ Drawn0 w w' := by
 have H : (if a0 ≥ 48 then (wicketref03_digit.j0 k a0 (decide (a0 ≤ 57))) else (wicketref03_digit.j0 k a0 false)) = some r := h
 clear h
 have HC2 := Aside0.mk H
 clear H
 go_enter Tryz.func108, Tryz.ntmps108
 go_upto_region 1 with (fail)
 go_cut [3] (fun v3 wc => ∃ (kq : Nat) (x3_1 : Bool), v3 = .bool x3_1 ∧ Aside0 (wicketref03_digit.j0 kq a0 x3_1 = some r) ∧ Aside0 (kq ≤ k) ∧ Drawn0 w wc)
 case first =>
  have H := HC2.out
  clear HC2
  by_cases c3 : a0 ≥ 48
  · rw [if_pos c3] at H
    have c3b0 : decide (48 ≤ a0) = true := decide_eq_true c3
    clear c3
    have H' := Aside0.mk H
    clear H
    go_wp2
    go_meet
    case rel => exact ⟨_, (decide (a0 ≤ 57)), rfl, H', ⟨by (omega)⟩, by repeat (exact Drawn0.refl _)⟩
  · rw [if_neg c3] at H
    have c3b0 : decide (48 ≤ a0) = false := decide_eq_false c3
    clear c3
    have H' := Aside0.mk H
    clear H
    go_wp2
    go_meet
    case rel => exact ⟨_, (false), rfl, H', ⟨by (omega)⟩, by repeat (exact Drawn0.refl _)⟩
 case rest =>
  clear HC2
  obtain ⟨kq, x3_1, rfl, HA, HJ1, ⟨mc1, rfl⟩⟩ := hcut
  cases kq with
  | zero => exact absurd HA.out (by simp [wicketref03_digit.j0])
  | succ kj1 =>
   have H := HA.out
   clear HA
   simp only [wicketref03_digit.j0] at H
   by_cases c4 : x3_1 = true
   · subst c4
     have H1 : (some ((a0 - 48) % 256)) = some r := by rw [if_pos rfl] at H; exact H
     clear H
     have H := H1
     clear H1
     obtain rfl := Option.some.inj H
     go_wp2
     go_ret
     exact ⟨by (rfl), by repeat (first | exact Drawn0.refl _ | apply Drawn0.step)⟩
   · replace c4 := Bool.eq_false_iff.mpr c4
     subst c4
     have H1 : (if a0 ≥ 97 then (wicketref03_digit.j1 kj1 a0 (decide (a0 ≤ 102))) else (wicketref03_digit.j1 kj1 a0 false)) = some r := by rw [if_neg (show ¬ (false = true) by decide)] at H; exact H
     clear H
     have H := H1
     clear H1
     have HC5 := Aside0.mk H
     clear H
     go_upto_region 3 with (fail)
     go_cut [13] (fun v13 wc => ∃ (kq : Nat) (x13_4 : Bool), v13 = .bool x13_4 ∧ Aside0 (wicketref03_digit.j1 kq a0 x13_4 = some r) ∧ Aside0 (kq ≤ kj1) ∧ Drawn0 w wc)
     case first =>
      have H := HC5.out
      clear HC5
      by_cases c6 : a0 ≥ 97
      · rw [if_pos c6] at H
        have c6b0 : decide (97 ≤ a0) = true := decide_eq_true c6
        clear c6
        have H' := Aside0.mk H
        clear H
        go_wp2
        go_meet
        case rel => exact ⟨_, (decide (a0 ≤ 102)), rfl, H', ⟨by have := HJ1.out; (omega)⟩, by repeat (first | exact Drawn0.refl _ | apply Drawn0.step)⟩
      · rw [if_neg c6] at H
        have c6b0 : decide (97 ≤ a0) = false := decide_eq_false c6
        clear c6
        have H' := Aside0.mk H
        clear H
        go_wp2
        go_meet
        case rel => exact ⟨_, (false), rfl, H', ⟨by have := HJ1.out; (omega)⟩, by repeat (first | exact Drawn0.refl _ | apply Drawn0.step)⟩
     case rest =>
      clear HC5
      obtain ⟨kq, x13_4, rfl, HA, HJ4, ⟨mc4, rfl⟩⟩ := hcut
      cases kq with
      | zero => exact absurd HA.out (by simp [wicketref03_digit.j1])
      | succ kj4 =>
       have H := HA.out
       clear HA
       simp only [wicketref03_digit.j1] at H
       by_cases c7 : x13_4 = true
       · subst c7
         have H1 : (some (((a0 - 97) % 256) + 10)) = some r := by rw [if_pos rfl] at H; exact H
         clear H
         have H := H1
         clear H1
         obtain rfl := Option.some.inj H
         go_wp2
         go_ret
         exact ⟨by (rfl), by repeat (first | exact Drawn0.refl _ | apply Drawn0.step)⟩
       · replace c7 := Bool.eq_false_iff.mpr c7
         subst c7
         have H1 : (if a0 ≥ 65 then (if a0 ≤ 70 then (some (((a0 - 65) % 256) + 10)) else (some (-1))) else (some (-1))) = some r := by rw [if_neg (show ¬ (false = true) by decide)] at H; exact H
         clear H
         have H := H1
         clear H1
         by_cases c8 : a0 ≥ 65
         · rw [if_pos c8] at H
           have c8b0 : decide (65 ≤ a0) = true := decide_eq_true c8
           clear c8
           by_cases c9 : a0 ≤ 70
           · rw [if_pos c9] at H
             have c9b0 : decide (a0 ≤ 70) = true := decide_eq_true c9
             clear c9
             obtain rfl := Option.some.inj H
             go_wp2
             go_ret
             exact ⟨by (rfl), by repeat (first | exact Drawn0.refl _ | apply Drawn0.step)⟩
           · rw [if_neg c9] at H
             have c9b0 : decide (a0 ≤ 70) = false := decide_eq_false c9
             clear c9
             obtain rfl := Option.some.inj H
             go_wp2
             go_ret
             exact ⟨by (rfl), by repeat (first | exact Drawn0.refl _ | apply Drawn0.step)⟩
         · rw [if_neg c8] at H
           have c8b0 : decide (65 ≤ a0) = false := decide_eq_false c8
           clear c8
           obtain rfl := Option.some.inj H
           go_wp2
           go_ret
           exact ⟨by (rfl), by repeat (first | exact Drawn0.refl _ | apply Drawn0.step)⟩
end Go.Proofs.YtmimipgmhgalaaaGreatDoor.PAll
end
section
namespace Go.Proofs.YtmimipgmhgalaaaGreatDoor.PAll
open Go.RowKit Go.Proofs.YtmimipgmhgalaaaGreatDoorW.PrintWords Go.Proofs.YtmimipgmhgalaaaGreatDoorW.PrintLast Go.Proofs.YtmimipgmhgalaaaGreatDoorW.PrintMore
attribute [local go_sem] max2_int min2_int max_two min_two max_three min_three max_four min_four
set_option linter.unusedVariables false
set_option linter.unusedSimpArgs false
mutual
def wicketref03_Unescape.l0 : Nat → ByteArray → List Int → Int → Option (ByteArray × Int × Int)
 | 0, _, _, _ => none
 | k + 1, x0, x5, x6 => if x6 < (x0.size : Int) then (if 0 ≤ x6 then (if (bt x0 x6) < 33 then (wicketref03_Unescape.j1 k x0 x5 x6 (bt x0 x6) true) else (wicketref03_Unescape.j1 k x0 x5 x6 (bt x0 x6) (decide ((bt x0 x6) > 126)))) else (none)) else (some (strOfNums x5, 0, 0))
def wicketref03_Unescape.j1 : Nat → ByteArray → List Int → Int → Int → Bool → Option (ByteArray × Int × Int)
 | 0, _, _, _, _, _ => none
 | k + 1, x0, x5, x6, x7, x22 => if x22 = true then (some ((⟨#[]⟩ : ByteArray), 31, x6)) else (if x7 = 43 then (if x5.length < 140737488355328 then (wicketref03_Unescape.l0 k x0 (x5 ++ [32]) (wrap64 (x6 + 1))) else (none)) else (if x7 = 37 then (if (wrap64 (x6 + 2)) ≥ (x0.size : Int) then (wicketref03_Unescape.j2 k x0 x5 x6 true) else (if 0 ≤ (wrap64 (x6 + 1)) then (if (wrap64 (x6 + 1)) < (x0.size : Int) then ((wicketref03_digit.f k (bt x0 (wrap64 (x6 + 1)))).bind fun t376 => (if t376 < 0 then (wicketref03_Unescape.j2 k x0 x5 x6 true) else (if 0 ≤ (wrap64 (x6 + 2)) then (if (wrap64 (x6 + 2)) < (x0.size : Int) then ((wicketref03_digit.f k (bt x0 (wrap64 (x6 + 2)))).bind fun t377 => (wicketref03_Unescape.j2 k x0 x5 x6 (decide (t377 < 0)))) else (none)) else (none)))) else (none)) else (none))) else (if x5.length < 140737488355328 then (wicketref03_Unescape.l0 k x0 (x5 ++ [x7]) (wrap64 (x6 + 1))) else (none))))
def wicketref03_Unescape.j2 : Nat → ByteArray → List Int → Int → Bool → Option (ByteArray × Int × Int)
 | 0, _, _, _, _ => none
 | k + 1, x0, x5, x6, x56 => if x56 = true then (some ((⟨#[]⟩ : ByteArray), 30, x6)) else (if 0 ≤ (wrap64 (x6 + 1)) then (if (wrap64 (x6 + 1)) < (x0.size : Int) then ((wicketref03_digit.f k (bt x0 (wrap64 (x6 + 1)))).bind fun t378 => (if 0 ≤ (wrap64 (x6 + 2)) then (if (wrap64 (x6 + 2)) < (x0.size : Int) then ((wicketref03_digit.f k (bt x0 (wrap64 (x6 + 2)))).bind fun t379 => (if x5.length < 140737488355328 then (wicketref03_Unescape.l0 k x0 (x5 ++ [(wrap64 ((wrap64 (16 * t378)) + t379)) % 256]) (wrap64 ((wrap64 (x6 + 2)) + 1))) else (none))) else (none)) else (none))) else (none)) else (none))
end
def wicketref03_Unescape.f (k : Nat) (a0 : ByteArray) : Option (ByteArray × Int × Int) := wicketref03_Unescape.l0 k a0 ([] : List Int) 0
def wicketref03_Unescape.T15 : Bool × List (List Nat × List Nat) := (true, [([], []), ([], []), ([], []), ([2], [2]), ([1, 3], [1, 3]), ([4], [4]), ([5], [5]), ([], []), ([], []), ([8], [8]), ([7, 9], [7, 9]), ([10, 5], [10]), ([6, 11], [6, 11]), ([12], [12]), ([13], [13]), ([0, 14, 11], [0, 14]), ([15, 15, 0, 1, 2, 3, 4, 5, 6, 7, 8, 9, 10, 11, 12, 13, 14, 15], [0, 15])])
def wicketref03_Unescape.B15 : List Nat := [0, 0, 0, 4, 14, 30, 62, 0, 0, 256, 896, 1982, 4094, 8190, 16382, 32767, 65535]
theorem wicketref03_Unescape.tab15 : rtab .any (opsOf Tryz.f68 15) = wicketref03_Unescape.T15 := by kernel_rfl
theorem wicketref03_Unescape.bits15 : waitsOk wicketref03_Unescape.T15.2 wicketref03_Unescape.B15 = true := by kernel_rfl
set_option maxHeartbeats 8000000 in
set_option maxRecDepth 100000 in
theorem wicketref03_Unescape.calls (k : Nat) (a0 : ByteArray) (r1 : ByteArray) (r2 : Int) (r3 : Int) (w : World) (h : wicketref03_Unescape.f k a0 = some (r1, r2, r3)) :
 Calls Tryz.prog 68 #[.string a0] w fun e w' => e = .returned (.tuple #[.string r1, .int .i64 r2, .int .i64 r3]) ∧ Below w.heap.size w w' := by
 have HB := Aside0.mk (Below.refl w.heap.size w)
 have H : (wicketref03_Unescape.l0 k a0 ([] : List Int) 0) = some (r1, r2, r3) := h
 clear h
 have H' := Aside0.mk H
 clear H
 go_enter Tryz.func68, Tryz.ntmps68
 go_wp2
 go_loopg [5, 6] k (fun kq v5 v6 w' => ∃ (x5_1 : List Int) (x6_1 : Int), v6 = .int .i64 x6_1 ∧ Aside0 (wicketref03_Unescape.l0 kq a0 x5_1 x6_1 = some (r1, r2, r3)) ∧ Aside0 (kq ≤ k) ∧ Aside0 (Kd.R (Kd.int .u8) 5 w' w.heap.size (fun _ => True) v5 x5_1) ∧ Aside0 (Below w.heap.size w w'))
 case atStart => exact ⟨(([] : List Int)), (0), rfl, H', ⟨Nat.le_refl _⟩, ⟨by (exact Kd.R_nil _ _ _ _ _)⟩, ⟨HB.out⟩⟩
 case round =>
  clear H'
  obtain ⟨x5_1, x6_1, rfl, HA, HK1, HO_5, HB⟩ := hrel
  cases gk with
  | zero => exact absurd HA.out (by simp [wicketref03_Unescape.l0])
  | succ k1 =>
   have H := HA.out
   clear HA
   simp only [wicketref03_Unescape.l0] at H
   by_cases c2 : x6_1 < (a0.size : Int)
   · rw [if_pos c2] at H
     have c2b0 : decide (x6_1 < (a0.size : Int)) = true := decide_eq_true c2
     clear c2
     by_cases c3 : 0 ≤ x6_1
     · rw [if_pos c3] at H
       have c3b0 : decide (0 ≤ x6_1) = true := decide_eq_true c3
       clear c3
       have HC5 := Aside0.mk H
       clear H
       have p4 : 0 ≤ (x6_1 : Int) := of_decide_eq_true (by assumption)
       have q4 : x6_1 < (a0.size : Int) := of_decide_eq_true (by assumption)
       have hx4 := bt_at a0 x6_1
       replace p4 := eq_true p4
       replace q4 := eq_true q4
       go_upto_region 6 with (fail)
       go_cut [22] (fun v22 wc => ∃ (kq : Nat) (x22_4 : Bool), v22 = .bool x22_4 ∧ Aside0 (wicketref03_Unescape.j1 kq a0 x5_1 x6_1 (bt a0 x6_1) x22_4 = some (r1, r2, r3)) ∧ Aside0 (kq ≤ k1) ∧ Aside0 (Kd.R (Kd.int .u8) 5 wc w.heap.size (fun _ => True) u5 x5_1) ∧ Aside0 (Below w.heap.size w wc))
       case first =>
        have H := HC5.out
        clear HC5
        by_cases c6 : (bt a0 x6_1) < 33
        · rw [if_pos c6] at H
          have c6b0 : decide ((bt a0 x6_1) < 33) = true := decide_eq_true c6
          clear c6
          have H' := Aside0.mk H
          clear H
          go_wp2
          go_meet
          case rel => exact ⟨_, (true), rfl, H', ⟨by have := HK1.out; (omega)⟩, ⟨HO_5.out⟩, ⟨HB.out⟩⟩
        · rw [if_neg c6] at H
          have c6b0 : decide ((bt a0 x6_1) < 33) = false := decide_eq_false c6
          clear c6
          have H' := Aside0.mk H
          clear H
          go_wp2
          go_meet
          case rel => exact ⟨_, (decide ((bt a0 x6_1) > 126)), rfl, H', ⟨by have := HK1.out; (omega)⟩, ⟨HO_5.out⟩, ⟨HB.out⟩⟩
       case rest =>
        clear HC5 c2b0 c3b0 p4 q4 hx4
        obtain ⟨kq, x22_4, rfl, HA, HJ4, HO_5, HB⟩ := hcut
        cases kq with
        | zero => exact absurd HA.out (by simp [wicketref03_Unescape.j1])
        | succ kj4 =>
         have H := HA.out
         clear HA
         simp only [wicketref03_Unescape.j1] at H
         by_cases c7 : x22_4 = true
         · subst c7
           have H1 : (some ((⟨#[]⟩ : ByteArray), 31, x6_1)) = some (r1, r2, r3) := by rw [if_pos rfl] at H; exact H
           clear H
           have H := H1
           clear H1
           simp only [Option.some.injEq, Prod.mk.injEq] at H
           obtain ⟨rfl, rfl, rfl⟩ := H
           go_wp2
           go_ret3
           exact ⟨by (rfl), by (with_reducible exact HB.out)⟩
         · replace c7 := Bool.eq_false_iff.mpr c7
           subst c7
           have H1 : (if (bt a0 x6_1) = 43 then (if x5_1.length < 140737488355328 then (wicketref03_Unescape.l0 kj4 a0 (x5_1 ++ [32]) (wrap64 (x6_1 + 1))) else (none)) else (if (bt a0 x6_1) = 37 then (if (wrap64 (x6_1 + 2)) ≥ (a0.size : Int) then (wicketref03_Unescape.j2 kj4 a0 x5_1 x6_1 true) else (if 0 ≤ (wrap64 (x6_1 + 1)) then (if (wrap64 (x6_1 + 1)) < (a0.size : Int) then ((wicketref03_digit.f kj4 (bt a0 (wrap64 (x6_1 + 1)))).bind fun t376 => (if t376 < 0 then (wicketref03_Unescape.j2 kj4 a0 x5_1 x6_1 true) else (if 0 ≤ (wrap64 (x6_1 + 2)) then (if (wrap64 (x6_1 + 2)) < (a0.size : Int) then ((wicketref03_digit.f kj4 (bt a0 (wrap64 (x6_1 + 2)))).bind fun t377 => (wicketref03_Unescape.j2 kj4 a0 x5_1 x6_1 (decide (t377 < 0)))) else (none)) else (none)))) else (none)) else (none))) else (if x5_1.length < 140737488355328 then (wicketref03_Unescape.l0 kj4 a0 (x5_1 ++ [(bt a0 x6_1)]) (wrap64 (x6_1 + 1))) else (none)))) = some (r1, r2, r3) := by rw [if_neg (show ¬ (false = true) by decide)] at H; exact H
           clear H
           have H := H1
           clear H1
           by_cases c8 : (bt a0 x6_1) = 43
           · rw [if_pos c8] at H
             have c8b0 : ((bt a0 x6_1) == 43) = true := beq_iff_eq.mpr c8
             have c8b1 : ((bt a0 x6_1) != 43) = false := bne_eq_false_iff_eq.mpr c8
             clear c8
             by_cases c9 : x5_1.length < 140737488355328
             · rw [if_pos c9] at H
               have LMc9 := Aside0.mk c9
               clear c9
               obtain ⟨y373, hy373⟩ : ∃ y_ : List Int, y_ = (x5_1 ++ [32]) := ⟨_, rfl⟩
               replace H : (wicketref03_Unescape.l0 kj4 a0 y373 (wrap64 (x6_1 + 1))) = some (r1, r2, r3) := by (rw [hy373]; with_reducible exact H)
               have Ny373 := Aside0.mk hy373
               clear hy373
               have H' := Aside0.mk H
               clear H
               go_wp2_with (first | ((with_reducible refine gate_builtin (b := .append) (xs := #[.tmp 31, .tmp 32]) rfl ?_); at_builtin; refine Kd.R_append (Kd.int .u8) (w0 := w) w.heap.size rfl (.tmp 31) (.tmp 32) 79 5 (.int .u8 0) 1 rfl Tryz.underlying79 info5 rfl (by decide) (by omega) u5 x5_1 32 [.int .u8 32] (fun _ => True) (fun _ => False) rfl rfl ?aP (fun _ hk => hk.elim) ?aF ?aO ?aB ?aS ?aL ?_; (case aP => exact rfl); (case aB => exact HB.out); (case aF => exact (fun _ _ => trivial)); (case aO => exact HO_5.out); (case aS => exact (below_size HB.out)); (case aL => have := LMc9.out; omega); intro v374 w10 ho hb hg hat; rw [← Ny373.out] at ho; have n0_ := Aside0.mk hb; have n1_ := Aside0.mk ho; clear HB HO_5; have HB := n0_; have HO375 := n1_; clear n0_ n1_; clear ho hb hg hat))
               go_roundg kj4
               case measure => have := HK1.out; have := HJ4.out; omega
               case rel => exact ⟨(y373), (wrap64 (x6_1 + 1)), rfl, H', ⟨by have := HK1.out; have := HJ4.out; omega⟩, ⟨HO375.out⟩, ⟨HB.out⟩⟩
             · rw [if_neg c9] at H
               exact absurd H (by simp)
           · rw [if_neg c8] at H
             have c8b0 : ((bt a0 x6_1) == 43) = false := beq_eq_false_iff_ne.mpr c8
             have c8b1 : ((bt a0 x6_1) != 43) = true := bne_iff_ne.mpr c8
             by_cases c11 : (bt a0 x6_1) = 37
             · rw [if_pos c11] at H
               have c11b0 : ((bt a0 x6_1) == 37) = true := beq_iff_eq.mpr c11
               have c11b1 : ((bt a0 x6_1) != 37) = false := bne_eq_false_iff_eq.mpr c11
               clear c11
               have HC12 := Aside0.mk H
               clear H
               go_upto_region 13 with (fail)
               go_cut [56] (fun v56 wc => ∃ (kq : Nat) (x56_11 : Bool), v56 = .bool x56_11 ∧ Aside0 (wicketref03_Unescape.j2 kq a0 x5_1 x6_1 x56_11 = some (r1, r2, r3)) ∧ Aside0 (kq ≤ kj4) ∧ Aside0 (Kd.R (Kd.int .u8) 5 wc w.heap.size (fun _ => True) u5 x5_1) ∧ Aside0 (Below w.heap.size w wc))
               case first =>
                have H := HC12.out
                clear HC12
                by_cases c13 : (wrap64 (x6_1 + 2)) ≥ (a0.size : Int)
                · rw [if_pos c13] at H
                  have c13b0 : decide ((a0.size : Int) ≤ (wrap64 (x6_1 + 2))) = true := decide_eq_true c13
                  clear c13
                  have H' := Aside0.mk H
                  clear H
                  go_wp2
                  go_meet
                  case rel => exact ⟨_, (true), rfl, H', ⟨by have := HK1.out; have := HJ4.out; (omega)⟩, ⟨HO_5.out⟩, ⟨HB.out⟩⟩
                · rw [if_neg c13] at H
                  have c13b0 : decide ((a0.size : Int) ≤ (wrap64 (x6_1 + 2))) = false := decide_eq_false c13
                  clear c13
                  obtain ⟨ji14, hji14⟩ : ∃ j_ : Int, (wrap64 (x6_1 + 1)) = j_ := ⟨_, rfl⟩
                  replace H : (if 0 ≤ (ji14) then (if (ji14) < (a0.size : Int) then ((wicketref03_digit.f kj4 (bt a0 (ji14))).bind fun t376 => (if t376 < 0 then (wicketref03_Unescape.j2 kj4 a0 x5_1 x6_1 true) else (if 0 ≤ (wrap64 (x6_1 + 2)) then (if (wrap64 (x6_1 + 2)) < (a0.size : Int) then ((wicketref03_digit.f kj4 (bt a0 (wrap64 (x6_1 + 2)))).bind fun t377 => (wicketref03_Unescape.j2 kj4 a0 x5_1 x6_1 (decide (t377 < 0)))) else (none)) else (none)))) else (none)) else (none)) = some (r1, r2, r3) := by (rw [hji14] at H; exact H)
                  have hji14w : (IntKind.i64.wrap (x6_1 + 1)) = ji14 := (i64_w _).trans hji14
                  by_cases c15 : 0 ≤ (ji14)
                  · rw [if_pos c15] at H
                    have c15b0 : decide (0 ≤ (ji14)) = true := decide_eq_true c15
                    clear c15
                    by_cases c16 : (ji14) < (a0.size : Int)
                    · rw [if_pos c16] at H
                      have c16b0 : decide ((ji14) < (a0.size : Int)) = true := decide_eq_true c16
                      clear c16
                      replace H := Option.bind_eq_some_iff.mp H
                      obtain ⟨t376, A180, H⟩ := H
                      replace H : (if t376 < 0 then (wicketref03_Unescape.j2 kj4 a0 x5_1 x6_1 true) else (if 0 ≤ (wrap64 (x6_1 + 2)) then (if (wrap64 (x6_1 + 2)) < (a0.size : Int) then ((wicketref03_digit.f kj4 (bt a0 (wrap64 (x6_1 + 2)))).bind fun t377 => (wicketref03_Unescape.j2 kj4 a0 x5_1 x6_1 (decide (t377 < 0)))) else (none)) else (none))) = some (r1, r2, r3) := H
                      have A18 := Aside0.mk A180
                      clear A180
                      by_cases c19 : t376 < 0
                      · rw [if_pos c19] at H
                        have c19b0 : decide (t376 < 0) = true := decide_eq_true c19
                        clear c19
                        have H' := Aside0.mk H
                        clear H
                        have p17 : 0 ≤ ((ji14) : Int) := of_decide_eq_true (by assumption)
                        have q17 : (ji14) < (a0.size : Int) := of_decide_eq_true (by assumption)
                        have hx17 := bt_at a0 (ji14)
                        replace p17 := eq_true p17
                        replace q17 := eq_true q17
                        go_wp2_with (first | (go_at_call 108; (with_reducible refine (wicketref03_digit.calls kj4 (bt a0 (ji14)) t376 _ A18.out).mono ?_); rintro e w' ⟨rfl, ⟨nd, rfl⟩⟩))
                        go_meet
                        case rel => exact ⟨_, (true), rfl, H', ⟨by have := HK1.out; have := HJ4.out; (omega)⟩, ⟨by ((with_reducible repeat (apply Kd.R_drewN)); exact HO_5.out)⟩, ⟨by (repeat (with_reducible first | exact HB.out | apply pw_below_drewN))⟩⟩
                      · rw [if_neg c19] at H
                        have c19b0 : decide (t376 < 0) = false := decide_eq_false c19
                        clear c19
                        obtain ⟨ji20, hji20⟩ : ∃ j_ : Int, (wrap64 (x6_1 + 2)) = j_ := ⟨_, rfl⟩
                        replace H : (if 0 ≤ (ji20) then (if (ji20) < (a0.size : Int) then ((wicketref03_digit.f kj4 (bt a0 (ji20))).bind fun t377 => (wicketref03_Unescape.j2 kj4 a0 x5_1 x6_1 (decide (t377 < 0)))) else (none)) else (none)) = some (r1, r2, r3) := by (rw [hji20] at H; exact H)
                        (try rw [hji20] at c13b0)
                        have hji20w : (IntKind.i64.wrap (x6_1 + 2)) = ji20 := (i64_w _).trans hji20
                        by_cases c21 : 0 ≤ (ji20)
                        · rw [if_pos c21] at H
                          have c21b0 : decide (0 ≤ (ji20)) = true := decide_eq_true c21
                          clear c21
                          by_cases c22 : (ji20) < (a0.size : Int)
                          · rw [if_pos c22] at H
                            have c22b0 : decide ((ji20) < (a0.size : Int)) = true := decide_eq_true c22
                            clear c22
                            replace H := Option.bind_eq_some_iff.mp H
                            obtain ⟨t377, A240, H⟩ := H
                            replace H : (wicketref03_Unescape.j2 kj4 a0 x5_1 x6_1 (decide (t377 < 0))) = some (r1, r2, r3) := H
                            have A24 := Aside0.mk A240
                            clear A240
                            have H' := Aside0.mk H
                            clear H
                            have p17 : 0 ≤ ((ji14) : Int) := of_decide_eq_true (by assumption)
                            have q17 : (ji14) < (a0.size : Int) := of_decide_eq_true (by assumption)
                            have hx17 := bt_at a0 (ji14)
                            replace p17 := eq_true p17
                            replace q17 := eq_true q17
                            go_wp2_with (first | (go_at_call 108; (with_reducible refine (wicketref03_digit.calls kj4 (bt a0 (ji14)) t376 _ A18.out).mono ?_); rintro e w' ⟨rfl, ⟨nd, rfl⟩⟩; have p23 : 0 ≤ ((ji20) : Int) := of_decide_eq_true (by assumption); have q23 : (ji20) < (a0.size : Int) := of_decide_eq_true (by assumption); have hx23 := bt_at a0 (ji20); replace p23 := eq_true p23; replace q23 := eq_true q23) | (go_at_call 108; (with_reducible refine (wicketref03_digit.calls kj4 (bt a0 (ji20)) t377 _ A24.out).mono ?_); rintro e w' ⟨rfl, ⟨nd, rfl⟩⟩))
                            go_meet
                            case rel => exact ⟨_, (decide (t377 < 0)), rfl, H', ⟨by have := HK1.out; have := HJ4.out; (omega)⟩, ⟨by ((with_reducible repeat (apply Kd.R_drewN)); exact HO_5.out)⟩, ⟨by (repeat (with_reducible first | exact HB.out | apply pw_below_drewN))⟩⟩
                          · rw [if_neg c22] at H
                            exact absurd H (by simp)
                        · rw [if_neg c21] at H
                          exact absurd H (by simp)
                    · rw [if_neg c16] at H
                      exact absurd H (by simp)
                  · rw [if_neg c15] at H
                    exact absurd H (by simp)
               case rest =>
                clear HC12 c8 c8b0 c8b1 c11b0 c11b1
                obtain ⟨kq, x56_11, rfl, HA, HJ11, HO_5, HB⟩ := hcut
                cases kq with
                | zero => exact absurd HA.out (by simp [wicketref03_Unescape.j2])
                | succ kj11 =>
                 have H := HA.out
                 clear HA
                 simp only [wicketref03_Unescape.j2] at H
                 by_cases c25 : x56_11 = true
                 · subst c25
                   have H1 : (some ((⟨#[]⟩ : ByteArray), 30, x6_1)) = some (r1, r2, r3) := by rw [if_pos rfl] at H; exact H
                   clear H
                   have H := H1
                   clear H1
                   simp only [Option.some.injEq, Prod.mk.injEq] at H
                   obtain ⟨rfl, rfl, rfl⟩ := H
                   go_wp2
                   go_ret3
                   exact ⟨by (rfl), by (with_reducible exact HB.out)⟩
                 · replace c25 := Bool.eq_false_iff.mpr c25
                   subst c25
                   have H1 : (if 0 ≤ (wrap64 (x6_1 + 1)) then (if (wrap64 (x6_1 + 1)) < (a0.size : Int) then ((wicketref03_digit.f kj11 (bt a0 (wrap64 (x6_1 + 1)))).bind fun t378 => (if 0 ≤ (wrap64 (x6_1 + 2)) then (if (wrap64 (x6_1 + 2)) < (a0.size : Int) then ((wicketref03_digit.f kj11 (bt a0 (wrap64 (x6_1 + 2)))).bind fun t379 => (if x5_1.length < 140737488355328 then (wicketref03_Unescape.l0 kj11 a0 (x5_1 ++ [(wrap64 ((wrap64 (16 * t378)) + t379)) % 256]) (wrap64 ((wrap64 (x6_1 + 2)) + 1))) else (none))) else (none)) else (none))) else (none)) else (none)) = some (r1, r2, r3) := by rw [if_neg (show ¬ (false = true) by decide)] at H; exact H
                   clear H
                   have H := H1
                   clear H1
                   obtain ⟨ji26, hji26⟩ : ∃ j_ : Int, (wrap64 (x6_1 + 1)) = j_ := ⟨_, rfl⟩
                   replace H : (if 0 ≤ (ji26) then (if (ji26) < (a0.size : Int) then ((wicketref03_digit.f kj11 (bt a0 (ji26))).bind fun t378 => (if 0 ≤ (wrap64 (x6_1 + 2)) then (if (wrap64 (x6_1 + 2)) < (a0.size : Int) then ((wicketref03_digit.f kj11 (bt a0 (wrap64 (x6_1 + 2)))).bind fun t379 => (if x5_1.length < 140737488355328 then (wicketref03_Unescape.l0 kj11 a0 (x5_1 ++ [(wrap64 ((wrap64 (16 * t378)) + t379)) % 256]) (wrap64 ((wrap64 (x6_1 + 2)) + 1))) else (none))) else (none)) else (none))) else (none)) else (none)) = some (r1, r2, r3) := by (rw [hji26] at H; exact H)
                   have hji26w : (IntKind.i64.wrap (x6_1 + 1)) = ji26 := (i64_w _).trans hji26
                   by_cases c27 : 0 ≤ (ji26)
                   · rw [if_pos c27] at H
                     have c27b0 : decide (0 ≤ (ji26)) = true := decide_eq_true c27
                     clear c27
                     by_cases c28 : (ji26) < (a0.size : Int)
                     · rw [if_pos c28] at H
                       have c28b0 : decide ((ji26) < (a0.size : Int)) = true := decide_eq_true c28
                       clear c28
                       replace H := Option.bind_eq_some_iff.mp H
                       obtain ⟨t378, A300, H⟩ := H
                       replace H : (if 0 ≤ (wrap64 (x6_1 + 2)) then (if (wrap64 (x6_1 + 2)) < (a0.size : Int) then ((wicketref03_digit.f kj11 (bt a0 (wrap64 (x6_1 + 2)))).bind fun t379 => (if x5_1.length < 140737488355328 then (wicketref03_Unescape.l0 kj11 a0 (x5_1 ++ [(wrap64 ((wrap64 (16 * t378)) + t379)) % 256]) (wrap64 ((wrap64 (x6_1 + 2)) + 1))) else (none))) else (none)) else (none)) = some (r1, r2, r3) := H
                       have A30 := Aside0.mk A300
                       clear A300
                       obtain ⟨ji31, hji31⟩ : ∃ j_ : Int, (wrap64 (x6_1 + 2)) = j_ := ⟨_, rfl⟩
                       replace H : (if 0 ≤ (ji31) then (if (ji31) < (a0.size : Int) then ((wicketref03_digit.f kj11 (bt a0 (ji31))).bind fun t379 => (if x5_1.length < 140737488355328 then (wicketref03_Unescape.l0 kj11 a0 (x5_1 ++ [(wrap64 ((wrap64 (16 * t378)) + t379)) % 256]) (wrap64 ((ji31) + 1))) else (none))) else (none)) else (none)) = some (r1, r2, r3) := by (rw [hji31] at H; exact H)
                       have hji31w : (IntKind.i64.wrap (x6_1 + 2)) = ji31 := (i64_w _).trans hji31
                       by_cases c32 : 0 ≤ (ji31)
                       · rw [if_pos c32] at H
                         have c32b0 : decide (0 ≤ (ji31)) = true := decide_eq_true c32
                         clear c32
                         by_cases c33 : (ji31) < (a0.size : Int)
                         · rw [if_pos c33] at H
                           have c33b0 : decide ((ji31) < (a0.size : Int)) = true := decide_eq_true c33
                           clear c33
                           replace H := Option.bind_eq_some_iff.mp H
                           obtain ⟨t379, A350, H⟩ := H
                           replace H : (if x5_1.length < 140737488355328 then (wicketref03_Unescape.l0 kj11 a0 (x5_1 ++ [(wrap64 ((wrap64 (16 * t378)) + t379)) % 256]) (wrap64 ((ji31) + 1))) else (none)) = some (r1, r2, r3) := H
                           have A35 := Aside0.mk A350
                           clear A350
                           by_cases c36 : x5_1.length < 140737488355328
                           · rw [if_pos c36] at H
                             have LMc36 := Aside0.mk c36
                             clear c36
                             obtain ⟨y380, hy380⟩ : ∃ y_ : List Int, y_ = (x5_1 ++ [(wrap64 ((wrap64 (16 * t378)) + t379)) % 256]) := ⟨_, rfl⟩
                             replace H : (wicketref03_Unescape.l0 kj11 a0 y380 (wrap64 ((ji31) + 1))) = some (r1, r2, r3) := by (rw [hy380]; with_reducible exact H)
                             have Ny380 := Aside0.mk hy380
                             clear hy380
                             have H' := Aside0.mk H
                             clear H
                             try go_wp2
                             have n0_ := Aside0.mk (Kd.R_drew HO_5.out)
                             have n1_ := Aside0.mk (below_drew1 HB.out)
                             clear HO_5 HB
                             have HO_5 := n0_
                             have HB := n1_
                             clear n0_ n1_
                             have p29 : 0 ≤ ((ji26) : Int) := of_decide_eq_true (by assumption)
                             have q29 : (ji26) < (a0.size : Int) := of_decide_eq_true (by assumption)
                             have hx29 := bt_at a0 (ji26)
                             replace p29 := eq_true p29
                             replace q29 := eq_true q29
                             have p34 : 0 ≤ ((ji31) : Int) := of_decide_eq_true (by assumption)
                             have q34 : (ji31) < (a0.size : Int) := of_decide_eq_true (by assumption)
                             have hx34 := bt_at a0 (ji31)
                             replace p34 := eq_true p34
                             replace q34 := eq_true q34
                             refine start_ (n := 17) (S := fun w' => True) (ds := []) #[false, false, false, false, false, false, false, false, false, false, false, false, false, false, false, false, false] (by kernel_rfl) rfl rfl trivial (fun hHeld => ?_); refine with_tabW wicketref03_Unescape.tab15 wicketref03_Unescape.bits15 (fun HT_ HW_ => ?_)
                             generalize wc.drew = w37 at HO_5 HB hHeld ⊢
                             refine pure_ (i := 0) (N := some 58) (v := ?_) (a' := ?_) #[true, false, false, false, false, false, false, false, false, false, false, false, false, false, false, false, false] rfl rfl (any_of HT_.out (by kernel_rfl)) (fun _ _ _ h => h) (Or.inl ⟨by rfl, ?_⟩) ?_ ?_
                             rotate_left
                             · intro w'
                               go_simp
                               with_reducible rfl
                             rotate_left
                             · simp only [Act.put, List.setIfInBounds_toArray, List.set_cons_zero, List.set_cons_succ, i64_w, i32_w]
                               rfl
                             refine pure_ (i := 1) (N := some 59) (v := ?_) (a' := ?_) #[true, true, false, false, false, false, false, false, false, false, false, false, false, false, false, false, false] rfl rfl (any_of HT_.out (by kernel_rfl)) (fun _ _ _ h => h) (Or.inl ⟨by rfl, ?_⟩) ?_ ?_
                             rotate_left
                             · intro w'
                               go_simp
                               with_reducible rfl
                             rotate_left
                             · simp only [Act.put, List.setIfInBounds_toArray, List.set_cons_zero, List.set_cons_succ, i64_w, i32_w]
                               rfl
                             refine pure_ (i := 2) (N := some 60) (v := ?_) (a' := ?_) #[true, true, true, false, false, false, false, false, false, false, false, false, false, false, false, false, false] rfl rfl (any_of HT_.out (by kernel_rfl)) (fun _ _ _ h => h) (Or.inl ⟨by rfl, ?_⟩) ?_ ?_
                             rotate_left
                             · intro w'
                               go_simp
                               with_reducible rfl
                             rotate_left
                             · simp only [Act.put, List.setIfInBounds_toArray, List.set_cons_zero, List.set_cons_succ, i64_w, i32_w]
                               rfl
                             refine pure_ (i := 3) (N := some 61) (v := ?_) (a' := ?_) #[true, true, true, true, false, false, false, false, false, false, false, false, false, false, false, false, false] rfl rfl (any_of HT_.out (by kernel_rfl)) (fun _ _ _ h => h) (Or.inl ⟨by rfl, ?_⟩) ?_ ?_
                             rotate_left
                             · intro w'
                               go_simp
                               with_reducible rfl
                             rotate_left
                             · simp only [Act.put, List.setIfInBounds_toArray, List.set_cons_zero, List.set_cons_succ, i64_w, i32_w]
                               rfl
                             refine pure_ (i := 7) (N := some 65) (v := ?_) (a' := ?_) #[true, true, true, true, false, false, false, true, false, false, false, false, false, false, false, false, false] rfl rfl (any_of HT_.out (by kernel_rfl)) (fun _ _ _ h => h) (Or.inl ⟨by rfl, ?_⟩) ?_ ?_
                             rotate_left
                             · intro w'
                               go_simp
                               with_reducible rfl
                             rotate_left
                             · simp only [Act.put, List.setIfInBounds_toArray, List.set_cons_zero, List.set_cons_succ, i64_w, i32_w]
                               rfl
                             refine pure_ (i := 8) (N := some 66) (v := ?_) (a' := ?_) #[true, true, true, true, false, false, false, true, true, false, false, false, false, false, false, false, false] rfl rfl (any_of HT_.out (by kernel_rfl)) (fun _ _ _ h => h) (Or.inl ⟨by rfl, ?_⟩) ?_ ?_
                             rotate_left
                             · intro w'
                               go_simp
                               with_reducible rfl
                             rotate_left
                             · simp only [Act.put, List.setIfInBounds_toArray, List.set_cons_zero, List.set_cons_succ, i64_w, i32_w]
                               rfl
                             refine pure_ (i := 9) (N := some 67) (v := ?_) (a' := ?_) #[true, true, true, true, false, false, false, true, true, true, false, false, false, false, false, false, false] rfl rfl (any_of HT_.out (by kernel_rfl)) (fun _ _ _ h => h) (Or.inl ⟨by rfl, ?_⟩) ?_ ?_
                             rotate_left
                             · intro w'
                               go_simp
                               with_reducible rfl
                             rotate_left
                             · simp only [Act.put, List.setIfInBounds_toArray, List.set_cons_zero, List.set_cons_succ, i64_w, i32_w]
                               rfl
                             refine take_ (i := 4) (N := some 62) (v := ?_) (a' := ?_) #[true, true, true, true, true, false, false, true, true, true, false, false, false, false, false, false, false] rfl rfl (take_ofW HT_.out HW_.out (by kernel_rfl)) (fun _ _ _ h => h) (Or.inl ⟨by rfl, ?_⟩) hHeld ?_ ?_
                             rotate_left
                             · intro w' _
                               go_simp
                               with_reducible rfl
                             rotate_left
                             · simp only [Act.put, List.setIfInBounds_toArray, List.set_cons_zero, List.set_cons_succ, i64_w, i32_w]
                               rfl
                             refine take_ (i := 10) (N := some 68) (v := ?_) (a' := ?_) #[true, true, true, true, true, false, false, true, true, true, true, false, false, false, false, false, false] rfl rfl (take_ofW HT_.out HW_.out (by kernel_rfl)) (fun _ _ _ h => h) (Or.inl ⟨by rfl, ?_⟩) hHeld ?_ ?_
                             rotate_left
                             · intro w' _
                               go_simp
                               with_reducible rfl
                             rotate_left
                             · simp only [Act.put, List.setIfInBounds_toArray, List.set_cons_zero, List.set_cons_succ, i64_w, i32_w]
                               rfl
                             refine one_ (i := 5) (N := some 63) #[true, true, true, true, true, true, false, true, true, true, true, false, false, false, false, false, false] rfl rfl (one_of HT_.out (by kernel_rfl)) (by decide) (fun K hK => ?_)
                             refine goes_ Tryz.func108 (by kernel_rfl) rfl #[.int .u8 (bt a0 (ji26))] rfl rfl rfl (by (try simp only [List.map_toArray, List.map_cons, List.map_nil]); (rfl)) ?_
                             with_reducible refine (wicketref03_digit.calls kj11 (bt a0 (ji26)) t378 _ A30.out).mono ?_
                             rintro e w' ⟨rfl, ⟨nd, rfl⟩⟩
                             refine ⟨_, rfl, ?_⟩
                             refine hK.out _ _ trivial (fun hHeld => ?_)
                             clear hK K
                             refine norm_ (a' := ?_) ?_ ?_
                             rotate_left
                             · show Act.put _ (some 63) _ = _
                               simp only [Act.put, List.setIfInBounds_toArray, List.set_cons_zero, List.set_cons_succ, i64_w, i32_w]
                               rfl
                             refine pure_ (i := 6) (N := some 64) (v := ?_) (a' := ?_) #[true, true, true, true, true, true, true, true, true, true, true, false, false, false, false, false, false] rfl rfl (any_of HT_.out (by kernel_rfl)) (fun _ _ _ h => h) (Or.inl ⟨by rfl, ?_⟩) ?_ ?_
                             rotate_left
                             · intro w'
                               go_simp
                               with_reducible rfl
                             rotate_left
                             · simp only [Act.put, List.setIfInBounds_toArray, List.set_cons_zero, List.set_cons_succ, i64_w, i32_w]
                               rfl
                             refine one_ (i := 11) (N := some 69) #[true, true, true, true, true, true, true, true, true, true, true, true, false, false, false, false, false] rfl rfl (one_of HT_.out (by kernel_rfl)) (by decide) (fun K hK => ?_)
                             refine goes_ Tryz.func108 (by kernel_rfl) rfl #[.int .u8 (bt a0 (ji31))] rfl rfl rfl (by (try simp only [List.map_toArray, List.map_cons, List.map_nil]); (rfl)) ?_
                             with_reducible refine (wicketref03_digit.calls kj11 (bt a0 (ji31)) t379 _ A35.out).mono ?_
                             rintro e w' ⟨rfl, ⟨nd, rfl⟩⟩
                             refine ⟨_, rfl, ?_⟩
                             refine hK.out _ _ trivial (fun hHeld => ?_)
                             clear hK K
                             refine norm_ (a' := ?_) ?_ ?_
                             rotate_left
                             · show Act.put _ (some 69) _ = _
                               simp only [Act.put, List.setIfInBounds_toArray, List.set_cons_zero, List.set_cons_succ, i64_w, i32_w]
                               rfl
                             refine pure_ (i := 12) (N := some 70) (v := ?_) (a' := ?_) #[true, true, true, true, true, true, true, true, true, true, true, true, true, false, false, false, false] rfl rfl (any_of HT_.out (by kernel_rfl)) (fun _ _ _ h => h) (Or.inl ⟨by rfl, ?_⟩) ?_ ?_
                             rotate_left
                             · intro w'
                               go_simp
                               with_reducible rfl
                             rotate_left
                             · simp only [Act.put, List.setIfInBounds_toArray, List.set_cons_zero, List.set_cons_succ, i64_w, i32_w]
                               rfl
                             refine pure_ (i := 13) (N := some 71) (v := ?_) (a' := ?_) #[true, true, true, true, true, true, true, true, true, true, true, true, true, true, false, false, false] rfl rfl (any_of HT_.out (by kernel_rfl)) (fun _ _ _ h => h) (Or.inl ⟨by rfl, ?_⟩) ?_ ?_
                             rotate_left
                             · intro w'
                               go_simp
                               with_reducible rfl
                             rotate_left
                             · simp only [Act.put, List.setIfInBounds_toArray, List.set_cons_zero, List.set_cons_succ, i64_w, i32_w]
                               rfl
                             refine one_ (i := 14) (N := some 72) #[true, true, true, true, true, true, true, true, true, true, true, true, true, true, true, false, false] rfl rfl (one_of HT_.out (by kernel_rfl)) (by decide) (fun K hK => ?_)
                             refine value_ (w1 := ?_) (v := ?_) rfl rfl ?_ ?_
                             rotate_left 2
                             · go_simp
                               constructor
                               · rfl
                               · rfl
                             refine hK.out _ _ trivial (fun hHeld => ?_)
                             clear hK K
                             refine norm_ (a' := ?_) ?_ ?_
                             rotate_left
                             · show Act.put _ (some 72) _ = _
                               simp only [Act.put, List.setIfInBounds_toArray, List.set_cons_zero, List.set_cons_succ, i64_w, i32_w]
                               rfl
                             refine one_ (i := 15) (N := some 73) #[true, true, true, true, true, true, true, true, true, true, true, true, true, true, true, true, false] rfl rfl (one_of HT_.out (by kernel_rfl)) (by decide) (fun K hK => ?_)
                             refine Kd.R_append_step (Kd.int .u8) (w0 := w) w.heap.size rfl (.tmp 58) (.tmp 72) 79 5 (.int .u8 0) 1 rfl Tryz.underlying79 info5 rfl (by decide) (by omega) u5 x5_1 ((wrap64 ((wrap64 (16 * t378)) + t379)) % 256) [.int .u8 ((wrap64 ((wrap64 (16 * t378)) + t379)) % 256)] (fun _ => True) (fun _ => False) rfl rfl ?aP (fun _ hk => hk.elim) ?aF ?aO ?aB ?aS ?aL ?_
                             (case aP => exact rfl)
                             (case aB => exact (by (repeat (with_reducible first | exact HB.out | apply pw_below_drewN))))
                             (case aF => exact (fun _ _ => trivial))
                             (case aO => exact (by ((with_reducible repeat (apply Kd.R_drewN)); exact HO_5.out)))
                             (case aS => exact (below_size (by (repeat (with_reducible first | exact HB.out | apply pw_below_drewN)))))
                             (case aL => have := LMc36.out; omega)
                             intro v381 w38 ho hb hg hat
                             rw [← Ny380.out] at ho
                             have n0_ := Aside0.mk hb
                             have n1_ := Aside0.mk ho
                             clear HB HO_5
                             have HB := n0_
                             have HO382 := n1_
                             clear n0_ n1_ ho hb hg hat
                             refine hK.out _ _ trivial (fun hHeld => ?_)
                             clear hK K
                             refine norm_ (a' := ?_) ?_ ?_
                             rotate_left
                             · show Act.put _ (some 73) _ = _
                               simp only [Act.put, List.setIfInBounds_toArray, List.set_cons_zero, List.set_cons_succ, i64_w, i32_w]
                               rfl
                             refine pure_ (i := 16) (N := some 5) (v := ?_) (a' := ?_) #[true, true, true, true, true, true, true, true, true, true, true, true, true, true, true, true, true] rfl rfl (any_of HT_.out (by kernel_rfl)) (fun _ _ _ h => h) (Or.inl ⟨by rfl, ?_⟩) ?_ ?_
                             rotate_left
                             · intro w'
                               go_simp
                               with_reducible rfl
                             rotate_left
                             · simp only [Act.put, List.setIfInBounds_toArray, List.set_cons_zero, List.set_cons_succ, i64_w, i32_w]
                               rfl
                             refine done_ (done_of HT_.out (by kernel_rfl)) ?_
                             try go_wp2
                             go_roundg kj11
                             case measure => have := HK1.out; have := HJ4.out; have := HJ11.out; omega
                             case rel => exact ⟨(y380), (wrap64 ((ji31) + 1)), rfl, H', ⟨by have := HK1.out; have := HJ4.out; have := HJ11.out; omega⟩, ⟨HO382.out⟩, ⟨HB.out⟩⟩
                           · rw [if_neg c36] at H
                             exact absurd H (by simp)
                         · rw [if_neg c33] at H
                           exact absurd H (by simp)
                       · rw [if_neg c32] at H
                         exact absurd H (by simp)
                     · rw [if_neg c28] at H
                       exact absurd H (by simp)
                   · rw [if_neg c27] at H
                     exact absurd H (by simp)
             · rw [if_neg c11] at H
               have c11b0 : ((bt a0 x6_1) == 37) = false := beq_eq_false_iff_ne.mpr c11
               have c11b1 : ((bt a0 x6_1) != 37) = true := bne_iff_ne.mpr c11
               by_cases c39 : x5_1.length < 140737488355328
               · rw [if_pos c39] at H
                 have LMc39 := Aside0.mk c39
                 clear c39
                 obtain ⟨y383, hy383⟩ : ∃ y_ : List Int, y_ = (x5_1 ++ [(bt a0 x6_1)]) := ⟨_, rfl⟩
                 replace H : (wicketref03_Unescape.l0 kj4 a0 y383 (wrap64 (x6_1 + 1))) = some (r1, r2, r3) := by (rw [hy383]; with_reducible exact H)
                 have Ny383 := Aside0.mk hy383
                 clear hy383
                 have H' := Aside0.mk H
                 clear H
                 go_wp2_with (first | ((with_reducible refine gate_builtin (b := .append) (xs := #[.tmp 25, .tmp 27]) rfl ?_); at_builtin; refine Kd.R_append (Kd.int .u8) (w0 := w) w.heap.size rfl (.tmp 25) (.tmp 27) 79 5 (.int .u8 0) 1 rfl Tryz.underlying79 info5 rfl (by decide) (by omega) u5 x5_1 (bt a0 x6_1) [.int .u8 (bt a0 x6_1)] (fun _ => True) (fun _ => False) rfl rfl ?aP (fun _ hk => hk.elim) ?aF ?aO ?aB ?aS ?aL ?_; (case aP => exact rfl); (case aB => exact HB.out); (case aF => exact (fun _ _ => trivial)); (case aO => exact HO_5.out); (case aS => exact (below_size HB.out)); (case aL => have := LMc39.out; omega); intro v384 w40 ho hb hg hat; rw [← Ny383.out] at ho; have n0_ := Aside0.mk hb; have n1_ := Aside0.mk ho; clear HB HO_5; have HB := n0_; have HO385 := n1_; clear n0_ n1_; clear ho hb hg hat))
                 go_roundg kj4
                 case measure => have := HK1.out; have := HJ4.out; omega
                 case rel => exact ⟨(y383), (wrap64 (x6_1 + 1)), rfl, H', ⟨by have := HK1.out; have := HJ4.out; omega⟩, ⟨HO385.out⟩, ⟨HB.out⟩⟩
               · rw [if_neg c39] at H
                 exact absurd H (by simp)
     · rw [if_neg c3] at H
       exact absurd H (by simp)
   · rw [if_neg c2] at H
     have c2b0 : decide (x6_1 < (a0.size : Int)) = false := decide_eq_false c2
     clear c2
     simp only [Option.some.injEq, Prod.mk.injEq] at H
     obtain ⟨rfl, rfl, rfl⟩ := H
     have hcv41 := own_string (P := Tryz.prog) Tryz.underlying79 Tryz.underlying5 Tryz.underlying9 (Kd.own_of_R HO_5.out)
     go_wp2
     go_ret3
     exact ⟨by (rfl), by (with_reducible exact HB.out)⟩
end Go.Proofs.YtmimipgmhgalaaaGreatDoor.PAll
end
section
namespace Go.Proofs.YtmimipgmhgalaaaGreatDoor.Pure
open Go.RowKit Go.Proofs.YtmimipgmhgalaaaGreatDoorW.PrintWords Go.Proofs.YtmimipgmhgalaaaGreatDoor.Plain Go.Proofs.YtmimipgmhgalaaaGreatDoor.Spec
set_option linter.unusedSimpArgs false
set_option linter.unusedVariables false
def n8 (l : List UInt8) : List Int := l.map fun b => (b.toNat : Int)
theorem n8_len (l : List UInt8) : (n8 l).length = l.length := List.length_map ..
theorem n8_snoc (l : List UInt8) (c : UInt8) : n8 l ++ [(c.toNat : Int)] = n8 (l ++ [c]) := by simp [n8]
theorem str_n8 (l : List UInt8) : strOfNums (n8 l) = bs l := Lib.Lz.strOfNums_map l
theorem bt_get (s : ByteArray) (i : Nat) (h : i < s.size) : bt s (i : Int) = (s[i].toNat : Int) := by
  unfold bt
  rw [dif_pos (by simpa using h)]
  rfl
theorem u8_of (n : Int) (h0 : 0 ≤ n) (h1 : n < 256) : ((UInt8.ofNat n.toNat).toNat : Int) = n := by
  rw [UInt8.toNat_ofNat']; omega
theorem u8_lit (c : UInt8) (n : Nat) (h : c.toNat = n) : c = UInt8.ofNat n := by rw [← h, UInt8.ofNat_toNat]
end Go.Proofs.YtmimipgmhgalaaaGreatDoor.Pure
end
section
namespace Go.Proofs.YtmimipgmhgalaaaGreatDoor.Pure
open Go.RowKit Go.Proofs.YtmimipgmhgalaaaGreatDoorW.PrintWords Go.Proofs.YtmimipgmhgalaaaGreatDoor.Plain Go.Proofs.YtmimipgmhgalaaaGreatDoor.Spec Go.Proofs.YtmimipgmhgalaaaGreatDoor.PAll
set_option linter.unusedSimpArgs false
set_option linter.unusedVariables false
theorem digit_ev (c : UInt8) : Ev (fun k => wicketref03_digit.f k (c.toNat : Int)) (hexI c) := by
  have hc := c.toNat_lt
  unfold wicketref03_digit.f hexI
  by_cases h1 : 48 ≤ (c.toNat : Int) ∧ (c.toNat : Int) ≤ 57
  · rw [if_pos h1]
    refine Ev.pos (by omega) (Ev.step (f := fun _ => some ((c.toNat : Int) - 48)) (fun k => ?_) (Ev.now _))
    simp only [wicketref03_digit.j0]
    rw [if_pos (by simpa using h1.2), Int.emod_eq_of_lt (by omega) (by omega)]
  · rw [if_neg h1]
    have hj : Ev (fun k => wicketref03_digit.j0 k (c.toNat : Int) false) (if 97 ≤ (c.toNat : Int) ∧ (c.toNat : Int) ≤ 102 then (c.toNat : Int) - 97 + 10 else if 65 ≤ (c.toNat : Int) ∧ (c.toNat : Int) ≤ 70 then (c.toNat : Int) - 65 + 10 else -1) := by
      have hj1 : ∀ b : Bool, b = decide (97 ≤ (c.toNat : Int) ∧ (c.toNat : Int) ≤ 102) → Ev (fun k => wicketref03_digit.j1 k (c.toNat : Int) b) (if 97 ≤ (c.toNat : Int) ∧ (c.toNat : Int) ≤ 102 then (c.toNat : Int) - 97 + 10 else if 65 ≤ (c.toNat : Int) ∧ (c.toNat : Int) ≤ 70 then (c.toNat : Int) - 65 + 10 else -1) := by
        intro b hb
        refine Ev.step (f := fun _ => some _) (fun k => ?_) (Ev.now _)
        simp only [wicketref03_digit.j1]
        by_cases h2 : 97 ≤ (c.toNat : Int) ∧ (c.toNat : Int) ≤ 102
        · rw [if_pos (by rw [hb]; simpa using h2), if_pos h2, Int.emod_eq_of_lt (by omega) (by omega)]
        · rw [if_neg (by rw [hb]; simpa using h2), if_neg h2]
          by_cases h3 : 65 ≤ (c.toNat : Int) ∧ (c.toNat : Int) ≤ 70
          · rw [if_pos h3, if_pos h3.1, if_pos h3.2, Int.emod_eq_of_lt (by omega) (by omega)]
          · rw [if_neg h3]
            by_cases h4 : (c.toNat : Int) ≥ 65
            · rw [if_pos h4, if_neg (by omega)]
            · rw [if_neg h4]
      by_cases h5 : (c.toNat : Int) ≥ 97
      · refine Ev.step (fun k => ?_) (hj1 (decide ((c.toNat : Int) ≤ 102)) (by rw [decide_eq_decide]; omega))
        simp only [wicketref03_digit.j0]
        rw [if_neg (by simp), if_pos h5]
      · refine Ev.step (fun k => ?_) (hj1 false (by rw [eq_comm, decide_eq_false_iff_not]; omega))
        simp only [wicketref03_digit.j0]
        rw [if_neg (by simp), if_neg h5]
    by_cases h6 : (c.toNat : Int) ≥ 48
    · refine Ev.pos h6 ?_
      rw [decide_eq_false (by omega)]
      exact hj
    · exact Ev.neg h6 hj
def resU (r : List UInt8 × Int × Int) : ByteArray × Int × Int := (bs r.1, r.2.1, r.2.2)
theorem refun_loop (s : ByteArray) (hs : s.size ≤ 140737488351232) : ∀ (m i : Nat) (acc : List UInt8), s.size ≤ i + m → i ≤ s.size → acc.length ≤ i →
    Ev (fun k => wicketref03_Unescape.l0 k s (n8 acc) (i : Int)) (resU (unescL (s.data.toList.drop i) i acc)) := by
  intro m
  induction m with
  | zero =>
    intro i acc hi hi2 ha
    rw [List.drop_eq_nil_of_le (by rw [data_len]; omega)]
    refine Ev.step (f := fun _ => some (bs acc, 0, 0)) (fun k => ?_) (Ev.eq (Ev.now _) rfl)
    simp only [wicketref03_Unescape.l0]
    simp (disch := omega) only [↓if_pos, ↓if_neg, str_n8]
  | succ m ih =>
    intro i acc hi hi2 ha
    by_cases hlt : i < s.size
    · have hbt := bt_get s i hlt
      have hal := n8_len acc
      rw [drop_at s i hlt]
      generalize hc : s[i] = c at *
      have hl0 : Ev (fun k => wicketref03_Unescape.j1 k s (n8 acc) (i : Int) (c.toNat : Int) (decide ((c.toNat : Int) < 33 ∨ 126 < (c.toNat : Int)))) (resU (unescL (c :: s.data.toList.drop (i + 1)) i acc)) → Ev (fun k => wicketref03_Unescape.l0 k s (n8 acc) (i : Int)) (resU (unescL (c :: s.data.toList.drop (i + 1)) i acc)) := by
        refine fun h => Ev.step (fun k => ?_) h
        simp only [wicketref03_Unescape.l0]
        rw [if_pos (by omega), if_pos (by omega), hbt]
        by_cases h1 : (c.toNat : Int) < 33
        · rw [if_pos h1, decide_eq_true (Or.inl h1)]
        · rw [if_neg h1]
          congr 1
          rw [decide_eq_decide]
          omega
      refine hl0 ?_
      clear hl0
      by_cases hb : (c.toNat : Int) < 33 ∨ 126 < (c.toNat : Int)
      · rw [decide_eq_true hb, unescL_bad _ _ _ _ hb]
        refine Ev.step (f := fun _ => some (⟨#[]⟩, 31, (i : Int))) (fun k => ?_) (Ev.eq (Ev.now _) rfl)
        simp only [wicketref03_Unescape.j1, if_true]
      · rw [decide_eq_false hb]
        by_cases h1 : c = 43
        · rw [unescL_plus _ _ _ _ h1]
          have h1' : (c.toNat : Int) = 43 := by rw [h1]; rfl
          refine Ev.step (fun k => ?_) (ih (i + 1) (acc ++ [32]) (by omega) (by omega) (by rw [List.length_append, List.length_singleton]; omega))
          simp only [wicketref03_Unescape.j1]
          simp (disch := omega) only [↓if_pos, ↓if_neg, Bool.false_eq_true, if_false, w64, ← n8_snoc]
          rfl
        · have h1' : ¬ (c.toNat : Int) = 43 := fun e => h1 (u8_lit c 43 (by omega))
          by_cases h2 : c = 37
          · have h2' : (c.toNat : Int) = 37 := by rw [h2]; rfl
            have hbad : ∀ k, wicketref03_Unescape.j2 (k + 1) s (n8 acc) (i : Int) true = some (⟨#[]⟩, 30, (i : Int)) := fun k => by
              simp only [wicketref03_Unescape.j2, if_true]
            have hbadE : Ev (fun k => wicketref03_Unescape.j2 k s (n8 acc) (i : Int) true) ((⟨#[]⟩ : ByteArray), 30, (i : Int)) := Ev.step (f := fun _ => some _) hbad (Ev.now _)
            by_cases h3 : i + 2 < s.size
            · have hd := digit_ev s[i + 1]
              have he := digit_ev s[i + 2]
              have r1 := hexI_range s[i + 1]
              have r2 := hexI_range s[i + 2]
              have hb1 : bt s ((i : Int) + 1) = (s[i + 1].toNat : Int) := bt_get s (i + 1) (by omega)
              have hb2 : bt s ((i : Int) + 2) = (s[i + 2].toNat : Int) := bt_get s (i + 2) (by omega)
              rw [drop_at s (i + 1) (by omega), drop_at s (i + 2) (by omega)]
              have ih3 := ih (i + 3)
              generalize s[i + 1] = d at *
              generalize s[i + 2] = e at *
              refine Ev.step (f := fun k => (wicketref03_digit.f k (d.toNat : Int)).bind fun t155 => (if t155 < 0 then (wicketref03_Unescape.j2 k s (n8 acc) (i : Int) true) else (wicketref03_digit.f k (e.toNat : Int)).bind fun t156 => (wicketref03_Unescape.j2 k s (n8 acc) (i : Int) (decide (t156 < 0))))) (fun k => ?_) ?_
              · simp only [wicketref03_Unescape.j1]
                simp (disch := omega) only [↓if_pos, ↓if_neg, Bool.false_eq_true, if_false, w64, hb1, hb2]
              · refine Ev.bind hd ?_
                by_cases h4 : hexI d < 0
                · rw [unescL_nohex _ _ _ _ _ _ h2 (.inl h4)]
                  exact Ev.pos h4 hbadE
                · refine Ev.neg h4 (Ev.bind he ?_)
                  by_cases h5 : hexI e < 0
                  · rw [unescL_nohex _ _ _ _ _ _ h2 (.inr h5), decide_eq_true h5]
                    exact hbadE
                  · rw [unescL_hex c d e _ _ _ h2 (by omega), decide_eq_false h5]
                    have hv := u8_of (16 * hexI d + hexI e) (by omega) (by omega)
                    refine Ev.step (f := fun k => (wicketref03_digit.f k (d.toNat : Int)).bind fun t157 => (wicketref03_digit.f k (e.toNat : Int)).bind fun t158 => (wicketref03_Unescape.l0 k s (n8 acc ++ [(wrap64 ((wrap64 (16 * t157)) + t158)) % 256]) ((i + 3 : Nat) : Int))) (fun k => ?_) ?_
                    · simp only [wicketref03_Unescape.j2]
                      simp (disch := omega) only [↓if_pos, ↓if_neg, Bool.false_eq_true, if_false, w64, hb1, hb2]
                      rw [show (i : Int) + 2 + 1 = ((i + 3 : Nat) : Int) by omega]
                    · refine Ev.bind hd (Ev.bind he ?_)
                      rw [w64 (x := 16 * hexI d) (by omega) (by omega), w64 (by omega) (by omega), Int.emod_eq_of_lt (by omega) (by omega)]
                      have key := ih3 (acc ++ [UInt8.ofNat (16 * hexI d + hexI e).toNat]) (by omega) (by omega) (by rw [List.length_append, List.length_singleton]; omega)
                      rw [← n8_snoc, hv] at key
                      exact key
            · rw [unescL_short _ _ _ _ h2 (by rw [List.length_drop, data_len]; omega)]
              refine Ev.step (fun k => ?_) hbadE
              simp only [wicketref03_Unescape.j1]
              simp (disch := omega) only [↓if_pos, ↓if_neg, Bool.false_eq_true, if_false, w64]
          · have h2' : ¬ (c.toNat : Int) = 37 := fun e => h2 (u8_lit c 37 (by omega))
            rw [unescL_keep _ _ _ _ hb h1 h2]
            refine Ev.step (fun k => ?_) (ih (i + 1) (acc ++ [c]) (by omega) (by omega) (by rw [List.length_append, List.length_singleton]; omega))
            simp only [wicketref03_Unescape.j1]
            simp (disch := omega) only [↓if_pos, ↓if_neg, Bool.false_eq_true, if_false, w64, ← n8_snoc]
            rfl
    · have he : i = s.size := by omega
      rw [List.drop_eq_nil_of_le (by rw [data_len]; omega)]
      refine Ev.step (f := fun _ => some (bs acc, 0, 0)) (fun k => ?_) (Ev.eq (Ev.now _) rfl)
      simp only [wicketref03_Unescape.l0]
      simp (disch := omega) only [↓if_pos, ↓if_neg, str_n8]
theorem refun_ev (s : ByteArray) (hs : s.size ≤ 140737488351232) : Ev (fun k => wicketref03_Unescape.f k s) (resU (unescL s.data.toList 0 [])) := by
  unfold wicketref03_Unescape.f
  exact refun_loop s hs s.size 0 [] (by omega) (by omega) (by simp)
end Go.Proofs.YtmimipgmhgalaaaGreatDoor.Pure
end
section
namespace Go.Proofs.YtmimipgmhgalaaaGreatDoor.PAll
open Go.RowKit Go.Proofs.YtmimipgmhgalaaaGreatDoorW.PrintWords Go.Proofs.YtmimipgmhgalaaaGreatDoorW.PrintLast Go.Proofs.YtmimipgmhgalaaaGreatDoorW.PrintMore
attribute [local go_sem] max2_int min2_int max_two min_two max_three min_three max_four min_four
set_option linter.unusedVariables false
set_option linter.unusedSimpArgs false
def wicketref03_Letter.f (a0 : Int) : Option (Bool) := if a0 = 33 then (some true) else (if a0 ≥ 35 then (if a0 ≤ 91 then (some true) else (if a0 ≥ 93 then (some (decide (a0 ≤ 126))) else (some false))) else (if a0 ≥ 93 then (some (decide (a0 ≤ 126))) else (some false)))
set_option maxHeartbeats 8000000 in
set_option maxRecDepth 100000 in
theorem wicketref03_Letter.calls (a0 : Int) (r : Bool) (w : World) (h : wicketref03_Letter.f a0 = some r) :
 Calls Tryz.prog 74 #[.int .u8 a0] w fun e w' => e = .returned (.bool r) ∧ Drawn0 w w' := by
 have H : (if a0 = 33 then (some true) else (if a0 ≥ 35 then (if a0 ≤ 91 then (some true) else (if a0 ≥ 93 then (some (decide (a0 ≤ 126))) else (some false))) else (if a0 ≥ 93 then (some (decide (a0 ≤ 126))) else (some false)))) = some r := h
 clear h
 by_cases c2 : a0 = 33
 · rw [if_pos c2] at H
   have c2b0 : (a0 == 33) = true := beq_iff_eq.mpr c2
   have c2b1 : (a0 != 33) = false := bne_eq_false_iff_eq.mpr c2
   clear c2
   obtain rfl := Option.some.inj H
   go_enter Tryz.func74, Tryz.ntmps74
   go_wp2
   go_ret
   exact ⟨by (rfl), by repeat (exact Drawn0.refl _)⟩
 · rw [if_neg c2] at H
   have c2b0 : (a0 == 33) = false := beq_eq_false_iff_ne.mpr c2
   have c2b1 : (a0 != 33) = true := bne_iff_ne.mpr c2
   by_cases c3 : a0 ≥ 35
   · rw [if_pos c3] at H
     have c3b0 : decide (35 ≤ a0) = true := decide_eq_true c3
     clear c3
     by_cases c4 : a0 ≤ 91
     · rw [if_pos c4] at H
       have c4b0 : decide (a0 ≤ 91) = true := decide_eq_true c4
       clear c4
       obtain rfl := Option.some.inj H
       go_enter Tryz.func74, Tryz.ntmps74
       go_wp2
       go_ret
       exact ⟨by (rfl), by repeat (exact Drawn0.refl _)⟩
     · rw [if_neg c4] at H
       have c4b0 : decide (a0 ≤ 91) = false := decide_eq_false c4
       clear c4
       by_cases c5 : a0 ≥ 93
       · rw [if_pos c5] at H
         have c5b0 : decide (93 ≤ a0) = true := decide_eq_true c5
         clear c5
         obtain rfl := Option.some.inj H
         go_enter Tryz.func74, Tryz.ntmps74
         go_wp2
         go_ret
         exact ⟨by (rfl), by repeat (exact Drawn0.refl _)⟩
       · rw [if_neg c5] at H
         have c5b0 : decide (93 ≤ a0) = false := decide_eq_false c5
         clear c5
         obtain rfl := Option.some.inj H
         go_enter Tryz.func74, Tryz.ntmps74
         go_wp2
         go_ret
         exact ⟨by (rfl), by repeat (exact Drawn0.refl _)⟩
   · rw [if_neg c3] at H
     have c3b0 : decide (35 ≤ a0) = false := decide_eq_false c3
     clear c3
     by_cases c6 : a0 ≥ 93
     · rw [if_pos c6] at H
       have c6b0 : decide (93 ≤ a0) = true := decide_eq_true c6
       clear c6
       obtain rfl := Option.some.inj H
       go_enter Tryz.func74, Tryz.ntmps74
       go_wp2
       go_ret
       exact ⟨by (rfl), by repeat (exact Drawn0.refl _)⟩
     · rw [if_neg c6] at H
       have c6b0 : decide (93 ≤ a0) = false := decide_eq_false c6
       clear c6
       obtain rfl := Option.some.inj H
       go_enter Tryz.func74, Tryz.ntmps74
       go_wp2
       go_ret
       exact ⟨by (rfl), by repeat (exact Drawn0.refl _)⟩
attribute [local go_sem] str_gtr_ str_leq_ str_geq_
def wicketref03_put.l0 : Nat → List ByteArray → ByteArray → List ByteArray → Bool → Int → Option (List ByteArray)
 | 0, _, _, _, _, _ => none
 | k + 1, x0, x1, x5, x6, x7 => if x7 < (x0.length : Int) then (if 0 ≤ x7 then (if (rdOf ByteArray.empty x0 x7).toList = x1.toList then (some x0) else (if x6 = true then (if x5.length < 8796093022208 then (wicketref03_put.l0 k x0 x1 (x5 ++ [rdOf ByteArray.empty x0 x7]) x6 (wrap64 (x7 + 1))) else (none)) else (if (Op.bytesLess x1.toList ((rdOf ByteArray.empty x0 x7).toList)) = true then (if x5.length < 8796093022208 then ((some (x5 ++ [x1] : List ByteArray)).bind fun y325 => (if y325.length < 8796093022208 then (wicketref03_put.l0 k x0 x1 (y325 ++ [rdOf ByteArray.empty x0 x7]) true (wrap64 (x7 + 1))) else (none))) else (none)) else (if x5.length < 8796093022208 then (wicketref03_put.l0 k x0 x1 (x5 ++ [rdOf ByteArray.empty x0 x7]) x6 (wrap64 (x7 + 1))) else (none))))) else (none)) else (if x6 = true then (some x5) else (if x5.length < 8796093022208 then (some (x5 ++ [x1])) else (none)))
def wicketref03_put.f (k : Nat) (l0 : List ByteArray) (a1 : ByteArray) : Option (List ByteArray) := wicketref03_put.l0 k l0 a1 ([] : List ByteArray) false 0
set_option maxHeartbeats 8000000 in
set_option maxRecDepth 100000 in
theorem wicketref03_put.calls (k : Nat) (P0_ : Nat → Prop) (u9000_ : Value) (l0 : List ByteArray) (a1 : ByteArray) (r : List ByteArray) (w0 w : World) (hB : Below w0.heap.size w0 w) (ho0 : Kd.R Kd.string 9 w w0.heap.size P0_ u9000_ l0) (h : wicketref03_put.f k l0 a1 = some r) :
 Calls Tryz.prog 75 #[u9000_, .string a1] w fun e w' => ∃ v0_ : Value, e = .returned (v0_) ∧ Kd.R Kd.string 9 w' w0.heap.size (fun k_ => (P0_ k_ ∨ w.heap.size ≤ k_)) v0_ r ∧ Below w0.heap.size w0 w' ∧ Kept w w' (fun k_ => P0_ k_) := by
 have HO0 := Aside0.mk (show Kd.R Kd.string 9 w w0.heap.size (fun k_ => (P0_ k_ ∨ w.heap.size ≤ k_)) u9000_ l0 from Kd.R_mono ho0 (fun k_ hk => (.inl hk)))
 have HK := Aside0.mk (Kept.refl w (fun k_ => P0_ k_))
 have HW0 := Aside0.mk hB.size
 have HB := Aside0.mk hB
 clear hB
 have H : (wicketref03_put.l0 k l0 a1 ([] : List ByteArray) false 0) = some r := h
 clear h
 have H' := Aside0.mk H
 clear H
 go_enter Tryz.func75, Tryz.ntmps75
 go_wp2
 go_loopg [5, 6, 7] k (fun kq v5 v6 v7 w' => ∃ (x5_1 : List ByteArray) (x6_1 : Bool) (x7_1 : Int), v6 = .bool x6_1 ∧ v7 = .int .i64 x7_1 ∧ Aside0 (wicketref03_put.l0 kq l0 a1 x5_1 x6_1 x7_1 = some r) ∧ Aside0 (kq ≤ k) ∧ Aside0 (Kd.R Kd.string 9 w' w0.heap.size (fun k_ => (P0_ k_ ∨ w.heap.size ≤ k_) ∧ some k_ ≠ (v5 : Value).ownBlock) u9000_ l0) ∧ Aside0 (Kd.R Kd.string 9 w' w0.heap.size (fun k_ => (P0_ k_ ∨ w.heap.size ≤ k_) ∧ some k_ ≠ (u9000_ : Value).ownBlock) v5 x5_1) ∧ Aside0 (Kept w w' (fun k_ => P0_ k_)) ∧ Aside0 (Below w0.heap.size w0 w'))
 case atStart => exact ⟨(([] : List ByteArray)), (false), (0), rfl, rfl, H', ⟨Nat.le_refl _⟩, ⟨by (with_reducible repeat (first | apply Kd.R_alloc  | apply Kd.R_drewN  | apply Kd.R_drew)); exact Kd.R_mono HO0.out (fun _ hk => ⟨hk, (by simp [Value.ownBlock])⟩)⟩, ⟨by (exact Kd.R_nil _ _ _ _ _)⟩, ⟨HK.out⟩, ⟨HB.out⟩⟩
 case round =>
  clear H'
  obtain ⟨x5_1, x6_1, x7_1, rfl, rfl, HA, HK1, HO_0, HO_5, HK, HB⟩ := hrel
  cases gk with
  | zero => exact absurd HA.out (by simp [wicketref03_put.l0])
  | succ k1 =>
   have H := HA.out
   clear HA
   simp only [wicketref03_put.l0] at H
   by_cases c3 : x7_1 < (l0.length : Int)
   · rw [if_pos c3] at H
     have c3b0 : decide (x7_1 < (l0.length : Int)) = true := decide_eq_true c3
     clear c3
     by_cases c4 : 0 ≤ x7_1
     · rw [if_pos c4] at H
       have c4b0 : decide (0 ≤ x7_1) = true := decide_eq_true c4
       clear c4
       by_cases c5 : (rdOf ByteArray.empty l0 x7_1).toList = a1.toList
       · rw [if_pos c5] at H
         have c5b0 : ((rdOf ByteArray.empty l0 x7_1).toList == a1.toList) = true := beq_iff_eq.mpr c5
         have c5b1 : ((rdOf ByteArray.empty l0 x7_1).toList != a1.toList) = false := bne_eq_false_iff_eq.mpr c5
         clear c5
         obtain rfl := Option.some.inj H
         obtain ⟨Ao6, co6, eo6⟩ := Kd.R_slice HO_0.out
         subst eo6
         have p319 : 0 ≤ (x7_1 : Int) := of_decide_eq_true (by assumption)
         have q319 : x7_1 < (l0.length : Int) := of_decide_eq_true (by assumption)
         obtain ⟨ad319, e319, hx319_0⟩ := Kd.at_string (Kd.R_reads' HO_0.out).2.2 x7_1 p319 q319
         cases e319
         replace p319 := eq_true p319
         replace q319 := eq_true q319
         go_wp2
         go_ret
         exact ⟨_, rfl, by (with_reducible repeat (first | apply Kd.R_alloc  | apply Kd.R_drewN  | apply Kd.R_drew)); exact Kd.R_mono HO_0.out (fun _ hk => hk.1), by (with_reducible exact HB.out), by (with_reducible exact HK.out)⟩
       · rw [if_neg c5] at H
         have c5b0 : ((rdOf ByteArray.empty l0 x7_1).toList == a1.toList) = false := beq_eq_false_iff_ne.mpr c5
         have c5b1 : ((rdOf ByteArray.empty l0 x7_1).toList != a1.toList) = true := bne_iff_ne.mpr c5
         by_cases c7 : x6_1 = true
         · subst c7
           have H1 : (if x5_1.length < 8796093022208 then (wicketref03_put.l0 k1 l0 a1 (x5_1 ++ [rdOf ByteArray.empty l0 x7_1]) true (wrap64 (x7_1 + 1))) else (none)) = some r := by rw [if_pos rfl] at H; exact H
           clear H
           have H := H1
           clear H1
           by_cases c8 : x5_1.length < 8796093022208
           · rw [if_pos c8] at H
             have LMc8 := Aside0.mk c8
             clear c8
             obtain ⟨y321, hy321⟩ : ∃ y_ : List ByteArray, y_ = (x5_1 ++ [rdOf ByteArray.empty l0 x7_1]) := ⟨_, rfl⟩
             replace H : (wicketref03_put.l0 k1 l0 a1 y321 true (wrap64 (x7_1 + 1))) = some r := by (rw [hy321]; with_reducible exact H)
             have Ny321 := Aside0.mk hy321
             clear hy321
             have H' := Aside0.mk H
             clear H
             obtain ⟨Ao9, co9, eo9⟩ := Kd.R_slice HO_0.out
             subst eo9
             have p319 : 0 ≤ (x7_1 : Int) := of_decide_eq_true (by assumption)
             have q319 : x7_1 < (l0.length : Int) := of_decide_eq_true (by assumption)
             obtain ⟨ad319, e319, hx319_0⟩ := Kd.at_string (Kd.R_reads' HO_0.out).2.2 x7_1 p319 q319
             cases e319
             replace p319 := eq_true p319
             replace q319 := eq_true q319
             have p320 : 0 ≤ (x7_1 : Int) := of_decide_eq_true (by assumption)
             have q320 : x7_1 < (l0.length : Int) := of_decide_eq_true (by assumption)
             obtain ⟨ad320, e320, hx320_0⟩ := Kd.at_string (Kd.R_reads' HO_0.out).2.2 x7_1 p320 q320
             obtain rfl : ad319 = ad320 := (by injection e320)
             replace p320 := eq_true p320
             replace q320 := eq_true q320
             go_wp2_with (first | ((with_reducible refine gate_builtin (b := .append) (xs := #[.tmp 35, .tmp 40]) rfl ?_); at_builtin; refine Kd.R_append Kd.string (w0 := w0) w0.heap.size rfl (.tmp 35) (.tmp 40) 38 9 (.string ⟨#[]⟩) 16 rfl Tryz.underlying38 info9 rfl (by decide) (by omega) u5 x5_1 (rdOf ByteArray.empty l0 x7_1) [.string (rdOf ByteArray.empty l0 x7_1)] (fun k_ => (P0_ k_ ∨ w.heap.size ≤ k_) ∧ some k_ ≠ (.slice (some ad319) l0.length co9 : Value).ownBlock) (fun _ => False) rfl rfl ?aP (fun _ hk => hk.elim) ?aF ?aO ?aB ?aS ?aL ?_; (case aP => exact rfl); (case aB => exact HB.out); (case aF => exact (fun k_ hk => ⟨(.inr (Nat.le_trans (by exact HK.out.1) hk)), Kd.fresh' (Kd.R_lt HO_0.out) k_ hk⟩)); (case aO => exact HO_5.out); (case aS => exact (below_size HB.out)); (case aL => have := LMc8.out; omega); intro v322 w10 ho hb hg hat; rw [← Ny321.out] at ho; have n0_ := Aside0.mk (Kd.R_after (ok := (fun k_ => (P0_ k_ ∨ w.heap.size ≤ k_))) HO_0.out hg hat); have n1_ := Aside0.mk hb; have n2_ := Aside0.mk (Kept.of_grown (S := (fun k_ => P0_ k_)) hg HK.out (fun k_ e_ => (HO_5.out.1 k_ e_).1)); have n3_ := Aside0.mk ho; clear HO_0 HB; clear HK HO_5; have HO_0 := n0_; have HB := n1_; have HK := n2_; have HO323 := n3_; clear n0_ n1_ n2_ n3_; clear ho hb hg hat))
             go_roundg k1
             case measure => have := HK1.out; omega
             case rel => exact ⟨(y321), (true), (wrap64 (x7_1 + 1)), rfl, rfl, H', ⟨by have := HK1.out; omega⟩, ⟨HO_0.out⟩, ⟨HO323.out⟩, ⟨HK.out⟩, ⟨HB.out⟩⟩
           · rw [if_neg c8] at H
             exact absurd H (by simp)
         · replace c7 := Bool.eq_false_iff.mpr c7
           subst c7
           have H1 : (if (Op.bytesLess a1.toList ((rdOf ByteArray.empty l0 x7_1).toList)) = true then (if x5_1.length < 8796093022208 then ((some (x5_1 ++ [a1] : List ByteArray)).bind fun y325 => (if y325.length < 8796093022208 then (wicketref03_put.l0 k1 l0 a1 (y325 ++ [rdOf ByteArray.empty l0 x7_1]) true (wrap64 (x7_1 + 1))) else (none))) else (none)) else (if x5_1.length < 8796093022208 then (wicketref03_put.l0 k1 l0 a1 (x5_1 ++ [rdOf ByteArray.empty l0 x7_1]) false (wrap64 (x7_1 + 1))) else (none))) = some r := by rw [if_neg (show ¬ (false = true) by decide)] at H; exact H
           clear H
           have H := H1
           clear H1
           by_cases c11 : (Op.bytesLess a1.toList ((rdOf ByteArray.empty l0 x7_1).toList)) = true
           · rw [if_pos c11] at H
             have c11b0 : (Op.bytesLess a1.toList ((rdOf ByteArray.empty l0 x7_1).toList)) = true := c11
             clear c11
             by_cases c12 : x5_1.length < 8796093022208
             · rw [if_pos c12] at H
               have LMc12 := Aside0.mk c12
               clear c12
               obtain ⟨y325, hy325⟩ : ∃ y_ : List ByteArray, y_ = (x5_1 ++ [a1]) := ⟨_, rfl⟩
               replace H : (if y325.length < 8796093022208 then (wicketref03_put.l0 k1 l0 a1 (y325 ++ [rdOf ByteArray.empty l0 x7_1]) true (wrap64 (x7_1 + 1))) else (none)) = some r := by (have H2_ := (Option.bind_some _ _).symm.trans H; rw [hy325]; with_reducible exact H2_)
               have Ny325 := Aside0.mk hy325
               clear hy325
               by_cases c13 : y325.length < 8796093022208
               · rw [if_pos c13] at H
                 have LMc13 := Aside0.mk c13
                 clear c13
                 obtain ⟨y329, hy329⟩ : ∃ y_ : List ByteArray, y_ = (y325 ++ [rdOf ByteArray.empty l0 x7_1]) := ⟨_, rfl⟩
                 replace H : (wicketref03_put.l0 k1 l0 a1 y329 true (wrap64 (x7_1 + 1))) = some r := by (rw [hy329]; with_reducible exact H)
                 have Ny329 := Aside0.mk hy329
                 clear hy329
                 have H' := Aside0.mk H
                 clear H
                 obtain ⟨Ao14, co14, eo14⟩ := Kd.R_slice HO_0.out
                 subst eo14
                 have p319 : 0 ≤ (x7_1 : Int) := of_decide_eq_true (by assumption)
                 have q319 : x7_1 < (l0.length : Int) := of_decide_eq_true (by assumption)
                 obtain ⟨ad319, e319, hx319_0⟩ := Kd.at_string (Kd.R_reads' HO_0.out).2.2 x7_1 p319 q319
                 cases e319
                 replace p319 := eq_true p319
                 replace q319 := eq_true q319
                 have p324 : 0 ≤ (x7_1 : Int) := of_decide_eq_true (by assumption)
                 have q324 : x7_1 < (l0.length : Int) := of_decide_eq_true (by assumption)
                 obtain ⟨ad324, e324, hx324_0⟩ := Kd.at_string (Kd.R_reads' HO_0.out).2.2 x7_1 p324 q324
                 obtain rfl : ad319 = ad324 := (by injection e324)
                 replace p324 := eq_true p324
                 replace q324 := eq_true q324
                 go_wp2_with (first | ((with_reducible refine gate_builtin (b := .append) (xs := #[.tmp 31, .tmp 33]) rfl ?_); at_builtin; refine Kd.R_append Kd.string (w0 := w0) w0.heap.size rfl (.tmp 31) (.tmp 33) 38 9 (.string ⟨#[]⟩) 16 rfl Tryz.underlying38 info9 rfl (by decide) (by omega) u5 x5_1 a1 [.string a1] (fun k_ => (P0_ k_ ∨ w.heap.size ≤ k_) ∧ some k_ ≠ (.slice (some ad319) l0.length co14 : Value).ownBlock) (fun _ => False) rfl rfl ?aP (fun _ hk => hk.elim) ?aF ?aO ?aB ?aS ?aL ?_; (case aP => exact rfl); (case aB => exact HB.out); (case aF => exact (fun k_ hk => ⟨(.inr (Nat.le_trans (by exact HK.out.1) hk)), Kd.fresh' (Kd.R_lt HO_0.out) k_ hk⟩)); (case aO => exact HO_5.out); (case aS => exact (below_size HB.out)); (case aL => have := LMc12.out; omega); intro v326 w15 ho hb hg hat; rw [← Ny325.out] at ho; have n0_ := Aside0.mk (Kd.R_after (ok := (fun k_ => (P0_ k_ ∨ w.heap.size ≤ k_))) HO_0.out hg hat); have n1_ := Aside0.mk hb; have n2_ := Aside0.mk (Kept.of_grown (S := (fun k_ => P0_ k_)) hg HK.out (fun k_ e_ => (HO_5.out.1 k_ e_).1)); have n3_ := Aside0.mk ho; clear HO_0 HB; clear HK HO_5; have HO_0 := n0_; have HB := n1_; have HK := n2_; have HO327 := n3_; clear n0_ n1_ n2_ n3_; clear ho hb hg hat; have p328 : 0 ≤ (x7_1 : Int) := of_decide_eq_true (by assumption); have q328 : x7_1 < (l0.length : Int) := of_decide_eq_true (by assumption); obtain ⟨ad328, e328, hx328_0⟩ := Kd.at_string (Kd.R_reads' HO_0.out).2.2 x7_1 p328 q328; obtain rfl : ad319 = ad328 := (by injection e328); replace p328 := eq_true p328; replace q328 := eq_true q328) | ((with_reducible refine gate_builtin (b := .append) (xs := #[.tmp 35, .tmp 40]) rfl ?_); at_builtin; refine Kd.R_append Kd.string (w0 := w0) w0.heap.size rfl (.tmp 35) (.tmp 40) 38 9 (.string ⟨#[]⟩) 16 rfl Tryz.underlying38 info9 rfl (by decide) (by omega) v326 y325 (rdOf ByteArray.empty l0 x7_1) [.string (rdOf ByteArray.empty l0 x7_1)] (fun k_ => (P0_ k_ ∨ w.heap.size ≤ k_) ∧ some k_ ≠ (.slice (some ad319) l0.length co14 : Value).ownBlock) (fun _ => False) rfl rfl ?aP (fun _ hk => hk.elim) ?aF ?aO ?aB ?aS ?aL ?_; (case aP => exact rfl); (case aB => exact HB.out); (case aF => exact (fun k_ hk => ⟨(.inr (Nat.le_trans (by exact HK.out.1) hk)), Kd.fresh' (Kd.R_lt HO_0.out) k_ hk⟩)); (case aO => exact HO327.out); (case aS => exact (below_size HB.out)); (case aL => have := LMc13.out; omega); intro v330 w16 ho hb hg hat; rw [← Ny329.out] at ho; have n0_ := Aside0.mk (Kd.R_after (ok := (fun k_ => (P0_ k_ ∨ w.heap.size ≤ k_))) HO_0.out hg hat); have n1_ := Aside0.mk hb; have n2_ := Aside0.mk (Kept.of_grown (S := (fun k_ => P0_ k_)) hg HK.out (fun k_ e_ => (HO327.out.1 k_ e_).1)); have n3_ := Aside0.mk ho; clear HO_0 HB; clear HK HO327; have HO_0 := n0_; have HB := n1_; have HK := n2_; have HO331 := n3_; clear n0_ n1_ n2_ n3_; clear ho hb hg hat))
                 go_roundg k1
                 case measure => have := HK1.out; omega
                 case rel => exact ⟨(y329), (true), (wrap64 (x7_1 + 1)), rfl, rfl, H', ⟨by have := HK1.out; omega⟩, ⟨HO_0.out⟩, ⟨HO331.out⟩, ⟨HK.out⟩, ⟨HB.out⟩⟩
               · rw [if_neg c13] at H
                 exact absurd H (by simp)
             · rw [if_neg c12] at H
               exact absurd H (by simp)
           · rw [if_neg c11] at H
             have c11b0 : (Op.bytesLess a1.toList ((rdOf ByteArray.empty l0 x7_1).toList)) = false := by simpa using c11
             clear c11
             by_cases c17 : x5_1.length < 8796093022208
             · rw [if_pos c17] at H
               have LMc17 := Aside0.mk c17
               clear c17
               obtain ⟨y333, hy333⟩ : ∃ y_ : List ByteArray, y_ = (x5_1 ++ [rdOf ByteArray.empty l0 x7_1]) := ⟨_, rfl⟩
               replace H : (wicketref03_put.l0 k1 l0 a1 y333 false (wrap64 (x7_1 + 1))) = some r := by (rw [hy333]; with_reducible exact H)
               have Ny333 := Aside0.mk hy333
               clear hy333
               have H' := Aside0.mk H
               clear H
               obtain ⟨Ao18, co18, eo18⟩ := Kd.R_slice HO_0.out
               subst eo18
               have p319 : 0 ≤ (x7_1 : Int) := of_decide_eq_true (by assumption)
               have q319 : x7_1 < (l0.length : Int) := of_decide_eq_true (by assumption)
               obtain ⟨ad319, e319, hx319_0⟩ := Kd.at_string (Kd.R_reads' HO_0.out).2.2 x7_1 p319 q319
               cases e319
               replace p319 := eq_true p319
               replace q319 := eq_true q319
               have p324 : 0 ≤ (x7_1 : Int) := of_decide_eq_true (by assumption)
               have q324 : x7_1 < (l0.length : Int) := of_decide_eq_true (by assumption)
               obtain ⟨ad324, e324, hx324_0⟩ := Kd.at_string (Kd.R_reads' HO_0.out).2.2 x7_1 p324 q324
               obtain rfl : ad319 = ad324 := (by injection e324)
               replace p324 := eq_true p324
               replace q324 := eq_true q324
               have p332 : 0 ≤ (x7_1 : Int) := of_decide_eq_true (by assumption)
               have q332 : x7_1 < (l0.length : Int) := of_decide_eq_true (by assumption)
               obtain ⟨ad332, e332, hx332_0⟩ := Kd.at_string (Kd.R_reads' HO_0.out).2.2 x7_1 p332 q332
               obtain rfl : ad319 = ad332 := (by injection e332)
               replace p332 := eq_true p332
               replace q332 := eq_true q332
               go_wp2_with (first | ((with_reducible refine gate_builtin (b := .append) (xs := #[.tmp 35, .tmp 40]) rfl ?_); at_builtin; refine Kd.R_append Kd.string (w0 := w0) w0.heap.size rfl (.tmp 35) (.tmp 40) 38 9 (.string ⟨#[]⟩) 16 rfl Tryz.underlying38 info9 rfl (by decide) (by omega) u5 x5_1 (rdOf ByteArray.empty l0 x7_1) [.string (rdOf ByteArray.empty l0 x7_1)] (fun k_ => (P0_ k_ ∨ w.heap.size ≤ k_) ∧ some k_ ≠ (.slice (some ad319) l0.length co18 : Value).ownBlock) (fun _ => False) rfl rfl ?aP (fun _ hk => hk.elim) ?aF ?aO ?aB ?aS ?aL ?_; (case aP => exact rfl); (case aB => exact HB.out); (case aF => exact (fun k_ hk => ⟨(.inr (Nat.le_trans (by exact HK.out.1) hk)), Kd.fresh' (Kd.R_lt HO_0.out) k_ hk⟩)); (case aO => exact HO_5.out); (case aS => exact (below_size HB.out)); (case aL => have := LMc17.out; omega); intro v334 w19 ho hb hg hat; rw [← Ny333.out] at ho; have n0_ := Aside0.mk (Kd.R_after (ok := (fun k_ => (P0_ k_ ∨ w.heap.size ≤ k_))) HO_0.out hg hat); have n1_ := Aside0.mk hb; have n2_ := Aside0.mk (Kept.of_grown (S := (fun k_ => P0_ k_)) hg HK.out (fun k_ e_ => (HO_5.out.1 k_ e_).1)); have n3_ := Aside0.mk ho; clear HO_0 HB; clear HK HO_5; have HO_0 := n0_; have HB := n1_; have HK := n2_; have HO335 := n3_; clear n0_ n1_ n2_ n3_; clear ho hb hg hat))
               go_roundg k1
               case measure => have := HK1.out; omega
               case rel => exact ⟨(y333), (false), (wrap64 (x7_1 + 1)), rfl, rfl, H', ⟨by have := HK1.out; omega⟩, ⟨HO_0.out⟩, ⟨HO335.out⟩, ⟨HK.out⟩, ⟨HB.out⟩⟩
             · rw [if_neg c17] at H
               exact absurd H (by simp)
     · rw [if_neg c4] at H
       exact absurd H (by simp)
   · rw [if_neg c3] at H
     have c3b0 : decide (x7_1 < (l0.length : Int)) = false := decide_eq_false c3
     clear c3
     by_cases c20 : x6_1 = true
     · subst c20
       have H1 : (some x5_1) = some r := by rw [if_pos rfl] at H; exact H
       clear H
       have H := H1
       clear H1
       obtain rfl := Option.some.inj H
       obtain ⟨Ao21, co21, eo21⟩ := Kd.R_slice HO_0.out
       subst eo21
       go_wp2
       go_ret
       exact ⟨_, rfl, by (with_reducible repeat (first | apply Kd.R_alloc  | apply Kd.R_drewN  | apply Kd.R_drew)); exact Kd.R_mono HO_5.out (fun _ hk => hk.1), by (with_reducible exact HB.out), by (with_reducible exact HK.out)⟩
     · replace c20 := Bool.eq_false_iff.mpr c20
       subst c20
       have H1 : (if x5_1.length < 8796093022208 then (some (x5_1 ++ [a1])) else (none)) = some r := by rw [if_neg (show ¬ (false = true) by decide)] at H; exact H
       clear H
       have H := H1
       clear H1
       by_cases c22 : x5_1.length < 8796093022208
       · rw [if_pos c22] at H
         have LMc22 := Aside0.mk c22
         clear c22
         obtain ⟨y316, hy316⟩ : ∃ y_ : List ByteArray, y_ = (x5_1 ++ [a1]) := ⟨_, rfl⟩
         replace H : (some y316) = some r := by (rw [hy316]; with_reducible exact H)
         have Ny316 := Aside0.mk hy316
         clear hy316
         obtain rfl := Option.some.inj H
         obtain ⟨Ao23, co23, eo23⟩ := Kd.R_slice HO_0.out
         subst eo23
         go_wp2_with (first | ((with_reducible refine gate_builtin (b := .append) (xs := #[.tmp 44, .tmp 46]) rfl ?_); at_builtin; refine Kd.R_append Kd.string (w0 := w0) w0.heap.size rfl (.tmp 44) (.tmp 46) 38 9 (.string ⟨#[]⟩) 16 rfl Tryz.underlying38 info9 rfl (by decide) (by omega) u5 x5_1 a1 [.string a1] (fun k_ => (P0_ k_ ∨ w.heap.size ≤ k_) ∧ some k_ ≠ (.slice Ao23 l0.length co23 : Value).ownBlock) (fun _ => False) rfl rfl ?aP (fun _ hk => hk.elim) ?aF ?aO ?aB ?aS ?aL ?_; (case aP => exact rfl); (case aB => exact HB.out); (case aF => exact (fun k_ hk => ⟨(.inr (Nat.le_trans (by exact HK.out.1) hk)), Kd.fresh' (Kd.R_lt HO_0.out) k_ hk⟩)); (case aO => exact HO_5.out); (case aS => exact (below_size HB.out)); (case aL => have := LMc22.out; omega); intro v317 w24 ho hb hg hat; rw [← Ny316.out] at ho; have n0_ := Aside0.mk (Kd.R_after (ok := (fun k_ => (P0_ k_ ∨ w.heap.size ≤ k_))) HO_0.out hg hat); have n1_ := Aside0.mk hb; have n2_ := Aside0.mk (Kept.of_grown (S := (fun k_ => P0_ k_)) hg HK.out (fun k_ e_ => (HO_5.out.1 k_ e_).1)); have n3_ := Aside0.mk ho; clear HO_0 HB; clear HK HO_5; have HO_0 := n0_; have HB := n1_; have HK := n2_; have HO318 := n3_; clear n0_ n1_ n2_ n3_; clear ho hb hg hat))
         go_ret
         exact ⟨_, rfl, by (with_reducible repeat (first | apply Kd.R_alloc  | apply Kd.R_drewN  | apply Kd.R_drew)); exact Kd.R_mono HO318.out (fun _ hk => hk.1), by (with_reducible exact HB.out), by (with_reducible exact HK.out)⟩
       · rw [if_neg c22] at H
         exact absurd H (by simp)
end Go.Proofs.YtmimipgmhgalaaaGreatDoor.PAll
end
section
namespace Go.Proofs.YtmimipgmhgalaaaGreatDoor.PAll
open Go.RowKit Go.Proofs.YtmimipgmhgalaaaGreatDoorW.PrintWords Go.Proofs.YtmimipgmhgalaaaGreatDoorW.PrintLast Go.Proofs.YtmimipgmhgalaaaGreatDoorW.PrintMore
attribute [local go_sem] max2_int min2_int max_two min_two max_three min_three max_four min_four
set_option linter.unusedVariables false
set_option linter.unusedSimpArgs false
mutual
def wicketref03_Scopes.l0 : Nat → ByteArray → List ByteArray → Int → Int → Option (List ByteArray × Int)
 | 0, _, _, _, _ => none
 | k + 1, x0, x4, x5, x6 => if x6 ≤ (x0.size : Int) then (if x6 < (x0.size : Int) then (if 0 ≤ x6 then (wicketref03_Scopes.j1 k x0 x4 x5 x6 ((bt x0 x6) != 32)) else (none)) else (wicketref03_Scopes.j1 k x0 x4 x5 x6 false)) else (if (x4.length : Int) > 32 then (some (([] : List ByteArray), 32)) else (some (x4, 0)))
def wicketref03_Scopes.j1 : Nat → ByteArray → List ByteArray → Int → Int → Bool → Option (List ByteArray × Int)
 | 0, _, _, _, _, _ => none
 | k + 1, x0, x4, x5, x6, x27 => if x27 = true then (if 0 ≤ x6 then (if x6 < (x0.size : Int) then ((wicketref03_Letter.f (bt x0 x6)).bind fun t336 => (if t336 = true then (wicketref03_Scopes.l0 k x0 x4 x5 (wrap64 (x6 + 1))) else (some (([] : List ByteArray), 33)))) else (none)) else (none)) else (if x6 = x5 then (some (([] : List ByteArray), 33)) else (if 0 ≤ x5 then (if x5 ≤ x6 then (if x6 ≤ (x0.size : Int) then ((wicketref03_put.f k x4 (x0.extract (x5 : Int).toNat (x6 : Int).toNat)).bind fun t337 => (wicketref03_Scopes.l0 k x0 t337 (wrap64 (x6 + 1)) (wrap64 (x6 + 1)))) else (none)) else (none)) else (none)))
end
def wicketref03_Scopes.f (k : Nat) (a0 : ByteArray) : Option (List ByteArray × Int) := if (a0.size : Int) > 256 then (some (([] : List ByteArray), 1)) else (if a0.toList = ([] : List UInt8) then (some (([] : List ByteArray), 0)) else (wicketref03_Scopes.l0 k a0 ([] : List ByteArray) 0 0))
set_option maxHeartbeats 8000000 in
set_option maxRecDepth 100000 in
theorem wicketref03_Scopes.calls (k : Nat) (a0 : ByteArray) (r1 : List ByteArray) (r2 : Int) (w : World) (h : wicketref03_Scopes.f k a0 = some (r1, r2)) :
 Calls Tryz.prog 43 #[.string a0] w fun e w' => ∃ v0_ : Value, e = .returned (.tuple #[v0_, .int .i64 r2]) ∧ Kd.R Kd.string 9 w' w.heap.size (fun _ => True) v0_ r1 ∧ Below w.heap.size w w' := by
 have HB := Aside0.mk (Below.refl w.heap.size w)
 have H : (if (a0.size : Int) > 256 then (some (([] : List ByteArray), 1)) else (if a0.toList = ([] : List UInt8) then (some (([] : List ByteArray), 0)) else (wicketref03_Scopes.l0 k a0 ([] : List ByteArray) 0 0))) = some (r1, r2) := h
 clear h
 by_cases c2 : (a0.size : Int) > 256
 · rw [if_pos c2] at H
   have c2b0 : decide (256 < (a0.size : Int)) = true := decide_eq_true c2
   have c2b1 : decide (256 < a0.size) = true := decide_eq_true (by omega)
   clear c2
   simp only [Option.some.injEq, Prod.mk.injEq] at H
   obtain ⟨rfl, rfl⟩ := H
   go_enter Tryz.func43, Tryz.ntmps43
   go_wp2
   go_ret2
   exact ⟨_, rfl, by (exact Kd.R_nil _ _ _ _ _), by (with_reducible exact HB.out)⟩
 · rw [if_neg c2] at H
   have c2b0 : decide (256 < (a0.size : Int)) = false := decide_eq_false c2
   have c2b1 : decide (256 < a0.size) = false := decide_eq_false (by omega)
   clear c2
   by_cases c3 : a0.toList = ([] : List UInt8)
   · rw [if_pos c3] at H
     have c3b0 : (a0.toList == ([] : List UInt8)) = true := beq_iff_eq.mpr c3
     have c3b1 : (a0.toList != ([] : List UInt8)) = false := bne_eq_false_iff_eq.mpr c3
     clear c3
     simp only [Option.some.injEq, Prod.mk.injEq] at H
     obtain ⟨rfl, rfl⟩ := H
     go_enter Tryz.func43, Tryz.ntmps43
     go_wp2
     go_ret2
     exact ⟨_, rfl, by (exact Kd.R_nil _ _ _ _ _), by (with_reducible exact HB.out)⟩
   · rw [if_neg c3] at H
     have c3b0 : (a0.toList == ([] : List UInt8)) = false := beq_eq_false_iff_ne.mpr c3
     have c3b1 : (a0.toList != ([] : List UInt8)) = true := bne_iff_ne.mpr c3
     have H' := Aside0.mk H
     clear H
     go_enter Tryz.func43, Tryz.ntmps43
     go_wp2
     go_loopg [4, 5, 6] k (fun kq v4 v5 v6 w' => ∃ (x4_1 : List ByteArray) (x5_1 : Int) (x6_1 : Int), v5 = .int .i64 x5_1 ∧ v6 = .int .i64 x6_1 ∧ Aside0 (wicketref03_Scopes.l0 kq a0 x4_1 x5_1 x6_1 = some (r1, r2)) ∧ Aside0 (kq ≤ k) ∧ Aside0 (Kd.R Kd.string 9 w' w.heap.size (fun _ => True) v4 x4_1) ∧ Aside0 (Below w.heap.size w w'))
     case atStart => exact ⟨(([] : List ByteArray)), (0), (0), rfl, rfl, H', ⟨Nat.le_refl _⟩, ⟨by (exact Kd.R_nil _ _ _ _ _)⟩, ⟨HB.out⟩⟩
     case round =>
      clear H' c2b0 c2b1 c3 c3b0 c3b1
      obtain ⟨x4_1, x5_1, x6_1, rfl, rfl, HA, HK1, HO_4, HB⟩ := hrel
      cases gk with
      | zero => exact absurd HA.out (by simp [wicketref03_Scopes.l0])
      | succ k1 =>
       have H := HA.out
       clear HA
       simp only [wicketref03_Scopes.l0] at H
       by_cases c4 : x6_1 ≤ (a0.size : Int)
       · rw [if_pos c4] at H
         have c4b0 : decide (x6_1 ≤ (a0.size : Int)) = true := decide_eq_true c4
         clear c4
         have HC5 := Aside0.mk H
         clear H
         go_upto_region 10 with (fail)
         go_cut [27] (fun v27 wc => ∃ (kq : Nat) (x27_4 : Bool), v27 = .bool x27_4 ∧ Aside0 (wicketref03_Scopes.j1 kq a0 x4_1 x5_1 x6_1 x27_4 = some (r1, r2)) ∧ Aside0 (kq ≤ k1) ∧ Aside0 (Kd.R Kd.string 9 wc w.heap.size (fun _ => True) u4 x4_1) ∧ Aside0 (Below w.heap.size w wc))
         case first =>
          have H := HC5.out
          clear HC5
          by_cases c6 : x6_1 < (a0.size : Int)
          · rw [if_pos c6] at H
            have c6b0 : decide (x6_1 < (a0.size : Int)) = true := decide_eq_true c6
            clear c6
            by_cases c7 : 0 ≤ x6_1
            · rw [if_pos c7] at H
              have c7b0 : decide (0 ≤ x6_1) = true := decide_eq_true c7
              clear c7
              have H' := Aside0.mk H
              clear H
              have p8 : 0 ≤ (x6_1 : Int) := of_decide_eq_true (by assumption)
              have q8 : x6_1 < (a0.size : Int) := of_decide_eq_true (by assumption)
              have hx8 := bt_at a0 x6_1
              replace p8 := eq_true p8
              replace q8 := eq_true q8
              go_wp2
              go_meet
              case rel => exact ⟨_, (((bt a0 x6_1) != 32)), rfl, H', ⟨by have := HK1.out; (omega)⟩, ⟨HO_4.out⟩, ⟨HB.out⟩⟩
            · rw [if_neg c7] at H
              exact absurd H (by simp)
          · rw [if_neg c6] at H
            have c6b0 : decide (x6_1 < (a0.size : Int)) = false := decide_eq_false c6
            clear c6
            have H' := Aside0.mk H
            clear H
            go_wp2
            go_meet
            case rel => exact ⟨_, (false), rfl, H', ⟨by have := HK1.out; (omega)⟩, ⟨HO_4.out⟩, ⟨HB.out⟩⟩
         case rest =>
          clear HC5 c4b0
          obtain ⟨kq, x27_4, rfl, HA, HJ4, HO_4, HB⟩ := hcut
          cases kq with
          | zero => exact absurd HA.out (by simp [wicketref03_Scopes.j1])
          | succ kj4 =>
           have H := HA.out
           clear HA
           simp only [wicketref03_Scopes.j1] at H
           by_cases c9 : x27_4 = true
           · subst c9
             have H1 : (if 0 ≤ x6_1 then (if x6_1 < (a0.size : Int) then ((wicketref03_Letter.f (bt a0 x6_1)).bind fun t336 => (if t336 = true then (wicketref03_Scopes.l0 kj4 a0 x4_1 x5_1 (wrap64 (x6_1 + 1))) else (some (([] : List ByteArray), 33)))) else (none)) else (none)) = some (r1, r2) := by rw [if_pos rfl] at H; exact H
             clear H
             have H := H1
             clear H1
             by_cases c10 : 0 ≤ x6_1
             · rw [if_pos c10] at H
               have c10b0 : decide (0 ≤ x6_1) = true := decide_eq_true c10
               clear c10
               by_cases c11 : x6_1 < (a0.size : Int)
               · rw [if_pos c11] at H
                 have c11b0 : decide (x6_1 < (a0.size : Int)) = true := decide_eq_true c11
                 clear c11
                 replace H := Option.bind_eq_some_iff.mp H
                 obtain ⟨t336, A130, H⟩ := H
                 replace H : (if t336 = true then (wicketref03_Scopes.l0 kj4 a0 x4_1 x5_1 (wrap64 (x6_1 + 1))) else (some (([] : List ByteArray), 33))) = some (r1, r2) := H
                 have A13 := Aside0.mk A130
                 clear A130
                 by_cases c14 : t336 = true
                 · subst c14
                   have H1 : (wicketref03_Scopes.l0 kj4 a0 x4_1 x5_1 (wrap64 (x6_1 + 1))) = some (r1, r2) := by rw [if_pos rfl] at H; exact H
                   clear H
                   have H := H1
                   clear H1
                   have H' := Aside0.mk H
                   clear H
                   have p12 : 0 ≤ (x6_1 : Int) := of_decide_eq_true (by assumption)
                   have q12 : x6_1 < (a0.size : Int) := of_decide_eq_true (by assumption)
                   have hx12 := bt_at a0 x6_1
                   replace p12 := eq_true p12
                   replace q12 := eq_true q12
                   go_wp2_with (first | ((with_reducible refine gate_callee (f := 74) rfl ?_); refine goesL_ (some 31) rfl rfl Tryz.func74 (by kernel_rfl) rfl #[.int .u8 (bt a0 x6_1)] rfl (by ((try simp only [List.map_toArray, List.map_cons, List.map_nil]); (rfl))) ?_; (with_reducible refine (wicketref03_Letter.calls (bt a0 x6_1) true _ A13.out).mono ?_); rintro e w' ⟨rfl, ⟨nd, rfl⟩⟩; refine ⟨_, rfl, ?_⟩))
                   go_roundg kj4
                   case measure => have := HK1.out; have := HJ4.out; omega
                   case rel => exact ⟨(x4_1), (x5_1), (wrap64 (x6_1 + 1)), rfl, rfl, H', ⟨by have := HK1.out; have := HJ4.out; omega⟩, ⟨by ((with_reducible repeat (apply Kd.R_drewN)); exact HO_4.out)⟩, ⟨by (repeat (with_reducible first | exact HB.out | apply pw_below_drewN))⟩⟩
                 · replace c14 := Bool.eq_false_iff.mpr c14
                   subst c14
                   have H1 : (some (([] : List ByteArray), 33)) = some (r1, r2) := by rw [if_neg (show ¬ (false = true) by decide)] at H; exact H
                   clear H
                   have H := H1
                   clear H1
                   simp only [Option.some.injEq, Prod.mk.injEq] at H
                   obtain ⟨rfl, rfl⟩ := H
                   have p12 : 0 ≤ (x6_1 : Int) := of_decide_eq_true (by assumption)
                   have q12 : x6_1 < (a0.size : Int) := of_decide_eq_true (by assumption)
                   have hx12 := bt_at a0 x6_1
                   replace p12 := eq_true p12
                   replace q12 := eq_true q12
                   go_wp2_with (first | ((with_reducible refine gate_callee (f := 74) rfl ?_); refine goesL_ (some 31) rfl rfl Tryz.func74 (by kernel_rfl) rfl #[.int .u8 (bt a0 x6_1)] rfl (by ((try simp only [List.map_toArray, List.map_cons, List.map_nil]); (rfl))) ?_; (with_reducible refine (wicketref03_Letter.calls (bt a0 x6_1) false _ A13.out).mono ?_); rintro e w' ⟨rfl, ⟨nd, rfl⟩⟩; refine ⟨_, rfl, ?_⟩))
                   go_ret2
                   exact ⟨_, rfl, by (exact Kd.R_nil _ _ _ _ _), by (repeat (with_reducible first | exact HB.out | apply pw_below_drewN))⟩
               · rw [if_neg c11] at H
                 exact absurd H (by simp)
             · rw [if_neg c10] at H
               exact absurd H (by simp)
           · replace c9 := Bool.eq_false_iff.mpr c9
             subst c9
             have H1 : (if x6_1 = x5_1 then (some (([] : List ByteArray), 33)) else (if 0 ≤ x5_1 then (if x5_1 ≤ x6_1 then (if x6_1 ≤ (a0.size : Int) then ((wicketref03_put.f kj4 x4_1 (a0.extract (x5_1 : Int).toNat (x6_1 : Int).toNat)).bind fun t337 => (wicketref03_Scopes.l0 kj4 a0 t337 (wrap64 (x6_1 + 1)) (wrap64 (x6_1 + 1)))) else (none)) else (none)) else (none))) = some (r1, r2) := by rw [if_neg (show ¬ (false = true) by decide)] at H; exact H
             clear H
             have H := H1
             clear H1
             by_cases c15 : x6_1 = x5_1
             · rw [if_pos c15] at H
               have c15b0 : (x6_1 == x5_1) = true := beq_iff_eq.mpr c15
               have c15b1 : (x6_1 != x5_1) = false := bne_eq_false_iff_eq.mpr c15
               clear c15
               simp only [Option.some.injEq, Prod.mk.injEq] at H
               obtain ⟨rfl, rfl⟩ := H
               go_wp2
               go_ret2
               exact ⟨_, rfl, by (exact Kd.R_nil _ _ _ _ _), by (with_reducible exact HB.out)⟩
             · rw [if_neg c15] at H
               have c15b0 : (x6_1 == x5_1) = false := beq_eq_false_iff_ne.mpr c15
               have c15b1 : (x6_1 != x5_1) = true := bne_iff_ne.mpr c15
               by_cases c16 : 0 ≤ x5_1
               · rw [if_pos c16] at H
                 have c16b0 := eq_true c16
                 have c16b1 : decide (0 ≤ x5_1) = true := decide_eq_true c16
                 clear c16
                 by_cases c17 : x5_1 ≤ x6_1
                 · rw [if_pos c17] at H
                   have c17b0 := eq_true c17
                   have c17b1 : decide (x5_1 ≤ x6_1) = true := decide_eq_true c17
                   clear c17
                   by_cases c18 : x6_1 ≤ (a0.size : Int)
                   · rw [if_pos c18] at H
                     have c18b0 := eq_true c18
                     have c18b1 : decide (x6_1 ≤ (a0.size : Int)) = true := decide_eq_true c18
                     clear c18
                     replace H := Option.bind_eq_some_iff.mp H
                     obtain ⟨t337, A190, H⟩ := H
                     replace H : (wicketref03_Scopes.l0 kj4 a0 t337 (wrap64 (x6_1 + 1)) (wrap64 (x6_1 + 1))) = some (r1, r2) := H
                     have A19 := Aside0.mk A190
                     clear A190
                     have H' := Aside0.mk H
                     clear H
                     obtain ⟨Ao20, co20, eo20⟩ := Kd.R_slice HO_4.out
                     subst eo20
                     go_wp2_with (first | ((with_reducible refine gate_callee (f := 75) rfl ?_); refine goesL_ (some 41) rfl rfl Tryz.func75 (by kernel_rfl) rfl #[.slice Ao20 x4_1.length co20, .string (a0.extract (x5_1 : Int).toNat (x6_1 : Int).toNat)] rfl (by ((try simp only [List.map_toArray, List.map_cons, List.map_nil]); (rfl))) ?_; (with_reducible refine (wicketref03_put.calls kj4 (fun k_ => some k_ = (.slice Ao20 x4_1.length co20 : Value).ownBlock) (.slice Ao20 x4_1.length co20) x4_1 (a0.extract (x5_1 : Int).toNat (x6_1 : Int).toNat) t337 w _ ?side1 ?side2 A19.out).mono ?_); (case side1 => repeat ((with_reducible (exact HB.out)))); (case side2 => exact Kd.R_tight rfl HO_4.out); rintro e w21 ⟨v338, rfl, ho0, hb, hkp⟩; refine ⟨_, rfl, ?_⟩; have n0_ := Aside0.mk (Kd.R_mono (ok' := fun k_ => True) ho0 (fun k_ hk_ => trivial)); have n1_ := Aside0.mk hb; clear HB HO_4; have HO339 := n0_; have HB := n1_; clear n0_ n1_; clear hb hkp ho0))
                     go_roundg kj4
                     case measure => have := HK1.out; have := HJ4.out; omega
                     case rel => exact ⟨(t337), (wrap64 (x6_1 + 1)), (wrap64 (x6_1 + 1)), rfl, rfl, H', ⟨by have := HK1.out; have := HJ4.out; omega⟩, ⟨HO339.out⟩, ⟨HB.out⟩⟩
                   · rw [if_neg c18] at H
                     exact absurd H (by simp)
                 · rw [if_neg c17] at H
                   exact absurd H (by simp)
               · rw [if_neg c16] at H
                 exact absurd H (by simp)
       · rw [if_neg c4] at H
         have c4b0 : decide (x6_1 ≤ (a0.size : Int)) = false := decide_eq_false c4
         clear c4
         by_cases c22 : (x4_1.length : Int) > 32
         · rw [if_pos c22] at H
           have c22b0 : decide (32 < (x4_1.length : Int)) = true := decide_eq_true c22
           have c22b1 : decide (32 < x4_1.length) = true := decide_eq_true (by omega)
           clear c22
           simp only [Option.some.injEq, Prod.mk.injEq] at H
           obtain ⟨rfl, rfl⟩ := H
           obtain ⟨Ao23, co23, eo23⟩ := Kd.R_slice HO_4.out
           subst eo23
           go_wp2
           go_ret2
           exact ⟨_, rfl, by (exact Kd.R_nil _ _ _ _ _), by (with_reducible exact HB.out)⟩
         · rw [if_neg c22] at H
           have c22b0 : decide (32 < (x4_1.length : Int)) = false := decide_eq_false c22
           have c22b1 : decide (32 < x4_1.length) = false := decide_eq_false (by omega)
           clear c22
           simp only [Option.some.injEq, Prod.mk.injEq] at H
           obtain ⟨rfl, rfl⟩ := H
           obtain ⟨Ao24, co24, eo24⟩ := Kd.R_slice HO_4.out
           subst eo24
           go_wp2
           go_ret2
           exact ⟨_, rfl, by ((with_reducible repeat (first | apply Kd.R_alloc  | apply Kd.R_drewN  | apply Kd.R_drew)); exact HO_4.out), by (with_reducible exact HB.out)⟩
def wicketref11_Joined.l0 : Nat → List ByteArray → ByteArray → Int → Option (ByteArray)
 | 0, _, _, _ => none
 | k + 1, x0, x3, x4 => if x4 < (x0.length : Int) then (if x4 > 0 then (if x3.size + 1 ≤ 9223372036854775807 then (if 0 ≤ x4 then (if (x3 ++ (⟨#[32]⟩ : ByteArray)).size + (rdOf ByteArray.empty x0 x4).size ≤ 9223372036854775807 then (wicketref11_Joined.l0 k x0 ((x3 ++ (⟨#[32]⟩ : ByteArray)) ++ (rdOf ByteArray.empty x0 x4)) (wrap64 (x4 + 1))) else (none)) else (none)) else (none)) else (if 0 ≤ x4 then (if x3.size + (rdOf ByteArray.empty x0 x4).size ≤ 9223372036854775807 then (wicketref11_Joined.l0 k x0 (x3 ++ (rdOf ByteArray.empty x0 x4)) (wrap64 (x4 + 1))) else (none)) else (none))) else (some x3)
def wicketref11_Joined.f (k : Nat) (l0 : List ByteArray) : Option (ByteArray) := wicketref11_Joined.l0 k l0 (⟨#[]⟩ : ByteArray) 0
set_option maxHeartbeats 8000000 in
set_option maxRecDepth 100000 in
theorem wicketref11_Joined.calls (k : Nat) (A0 : Option Addr) (c0 : Nat) (l0 : List ByteArray) (r : ByteArray) (w : World) (hr0 : Kd.C Kd.string w A0 l0.length l0) (hc0 : l0.length ≤ c0) (h : wicketref11_Joined.f k l0 = some r) :
 Calls Tryz.prog 42 #[.slice A0 l0.length c0] w fun e w' => e = .returned (.string r) ∧ Drawn0 w w' := by
 have HR0 := Aside0.mk hr0
 have HC0 := Aside0.mk hc0
 clear hr0 hc0
 have H : (wicketref11_Joined.l0 k l0 (⟨#[]⟩ : ByteArray) 0) = some r := h
 clear h
 have H' := Aside0.mk H
 clear H
 go_enter Tryz.func42, Tryz.ntmps42
 go_wp2
 go_loopg [3, 4] k (fun kq v3 v4 w' => ∃ (x3_1 : ByteArray) (x4_1 : Int), v3 = .string x3_1 ∧ v4 = .int .i64 x4_1 ∧ Aside0 (wicketref11_Joined.l0 kq l0 x3_1 x4_1 = some r) ∧ Aside0 (kq ≤ k) ∧ Drawn0 w w')
 case atStart => exact ⟨((⟨#[]⟩ : ByteArray)), (0), rfl, rfl, H', ⟨Nat.le_refl _⟩, by repeat (exact Drawn0.refl _)⟩
 case round =>
  clear H'
  obtain ⟨x3_1, x4_1, rfl, rfl, HA, HK1, ⟨m1, rfl⟩⟩ := hrel
  cases gk with
  | zero => exact absurd HA.out (by simp [wicketref11_Joined.l0])
  | succ k1 =>
   have H := HA.out
   clear HA
   simp only [wicketref11_Joined.l0] at H
   by_cases c2 : x4_1 < (l0.length : Int)
   · rw [if_pos c2] at H
     have c2b0 : decide (x4_1 < (l0.length : Int)) = true := decide_eq_true c2
     clear c2
     by_cases c3 : x4_1 > 0
     · rw [if_pos c3] at H
       have c3b0 : decide (0 < x4_1) = true := decide_eq_true c3
       clear c3
       by_cases c4 : x3_1.size + 1 ≤ 9223372036854775807
       · rw [if_pos c4] at H
         have c4b0 := eq_true c4
         have c4b1 : decide (x3_1.size + 1 ≤ 9223372036854775807) = true := decide_eq_true c4
         try have c4b2 : (9223372036854775807 < x3_1.size + 1) = False := eq_false (Nat.not_lt.2 c4)
         by_cases c5 : 0 ≤ x4_1
         · rw [if_pos c5] at H
           have c5b0 : decide (0 ≤ x4_1) = true := decide_eq_true c5
           clear c5
           by_cases c6 : (x3_1 ++ (⟨#[32]⟩ : ByteArray)).size + (rdOf ByteArray.empty l0 x4_1).size ≤ 9223372036854775807
           · rw [if_pos c6] at H
             have c6b0 := eq_true c6
             have c6b1 : decide ((x3_1 ++ (⟨#[32]⟩ : ByteArray)).size + (rdOf ByteArray.empty l0 x4_1).size ≤ 9223372036854775807) = true := decide_eq_true c6
             try have c6b2 : (9223372036854775807 < (x3_1 ++ (⟨#[32]⟩ : ByteArray)).size + (rdOf ByteArray.empty l0 x4_1).size) = False := eq_false (Nat.not_lt.2 c6)
             try have c6b3 : (9223372036854775807 < x3_1.size + 1 + (rdOf ByteArray.empty l0 x4_1).size) = False := eq_false (Nat.not_lt.2 (by have h_ := c6; simp only [ByteArray.size_append'] at h_; exact h_))
             have H' := Aside0.mk H
             clear H
             have p340 : 0 ≤ (x4_1 : Int) := of_decide_eq_true (by assumption)
             have q340 : x4_1 < (l0.length : Int) := of_decide_eq_true (by assumption)
             obtain ⟨ad340, e340, hx340_0⟩ := Kd.at_string HR0.out x4_1 p340 q340
             cases e340
             replace p340 := eq_true p340
             replace q340 := eq_true q340
             go_wp2
             go_roundg k1
             case measure => have := HK1.out; omega
             case rel => exact ⟨((x3_1 ++ (⟨#[32]⟩ : ByteArray)) ++ (rdOf ByteArray.empty l0 x4_1)), (wrap64 (x4_1 + 1)), rfl, rfl, H', ⟨by have := HK1.out; omega⟩, by repeat (first | exact Drawn0.refl _ | apply Drawn0.step)⟩
           · rw [if_neg c6] at H
             exact absurd H (by simp)
         · rw [if_neg c5] at H
           exact absurd H (by simp)
       · rw [if_neg c4] at H
         exact absurd H (by simp)
     · rw [if_neg c3] at H
       have c3b0 : decide (0 < x4_1) = false := decide_eq_false c3
       clear c3
       by_cases c7 : 0 ≤ x4_1
       · rw [if_pos c7] at H
         have c7b0 : decide (0 ≤ x4_1) = true := decide_eq_true c7
         clear c7
         by_cases c8 : x3_1.size + (rdOf ByteArray.empty l0 x4_1).size ≤ 9223372036854775807
         · rw [if_pos c8] at H
           have c8b0 := eq_true c8
           have c8b1 : decide (x3_1.size + (rdOf ByteArray.empty l0 x4_1).size ≤ 9223372036854775807) = true := decide_eq_true c8
           try have c8b2 : (9223372036854775807 < x3_1.size + (rdOf ByteArray.empty l0 x4_1).size) = False := eq_false (Nat.not_lt.2 c8)
           have H' := Aside0.mk H
           clear H
           have p341 : 0 ≤ (x4_1 : Int) := of_decide_eq_true (by assumption)
           have q341 : x4_1 < (l0.length : Int) := of_decide_eq_true (by assumption)
           obtain ⟨ad341, e341, hx341_0⟩ := Kd.at_string HR0.out x4_1 p341 q341
           cases e341
           replace p341 := eq_true p341
           replace q341 := eq_true q341
           go_wp2
           go_roundg k1
           case measure => have := HK1.out; omega
           case rel => exact ⟨(x3_1 ++ (rdOf ByteArray.empty l0 x4_1)), (wrap64 (x4_1 + 1)), rfl, rfl, H', ⟨by have := HK1.out; omega⟩, by repeat (first | exact Drawn0.refl _ | apply Drawn0.step)⟩
         · rw [if_neg c8] at H
           exact absurd H (by simp)
       · rw [if_neg c7] at H
         exact absurd H (by simp)
   · rw [if_neg c2] at H
     have c2b0 : decide (x4_1 < (l0.length : Int)) = false := decide_eq_false c2
     clear c2
     obtain rfl := Option.some.inj H
     go_wp2
     go_ret
     exact ⟨by (rfl), by repeat (first | exact Drawn0.refl _ | apply Drawn0.step)⟩
end Go.Proofs.YtmimipgmhgalaaaGreatDoor.PAll
end
section
namespace Go.Proofs.YtmimipgmhgalaaaGreatDoor.PAll
open Go.RowKit Go.Proofs.YtmimipgmhgalaaaGreatDoorW.PrintWords Go.Proofs.YtmimipgmhgalaaaGreatDoorW.PrintLast Go.Proofs.YtmimipgmhgalaaaGreatDoorW.PrintMore
attribute [local go_sem] max2_int min2_int max_two min_two max_three min_three max_four min_four
set_option linter.unusedVariables false
set_option linter.unusedSimpArgs false
mutual
def wicketref03_pair.j1 : Nat → ByteArray → Int → Int → Int → Option (ByteArray × ByteArray × Int × Int)
 | 0, _, _, _, _ => none
 | k + 1, x0, x1, x2, x9 => if 0 ≤ x1 then (if x1 ≤ x9 then (if x9 ≤ (x0.size : Int) then ((wicketref03_Unescape.f k (x0.extract (x1 : Int).toNat (x9 : Int).toNat)).bind fun bt387 => (if bt387.2.1 = 0 then (if x9 = x2 then (some (bt387.1, (⟨#[]⟩ : ByteArray), 0, 0)) else (if 0 ≤ (wrap64 (x9 + 1)) then (if (wrap64 (x9 + 1)) ≤ x2 then (if x2 ≤ (x0.size : Int) then ((wicketref03_Unescape.f k (x0.extract ((wrap64 (x9 + 1)) : Int).toNat (x2 : Int).toNat)).bind fun bt390 => (if bt390.2.1 = 0 then (some (bt387.1, bt390.1, 0, 0)) else (some ((⟨#[]⟩ : ByteArray), (⟨#[]⟩ : ByteArray), bt390.2.1, wrap64 ((wrap64 (x9 + 1)) + bt390.2.2))))) else (none)) else (none)) else (none))) else (some ((⟨#[]⟩ : ByteArray), (⟨#[]⟩ : ByteArray), bt387.2.1, wrap64 (x1 + bt387.2.2))))) else (none)) else (none)) else (none)
def wicketref03_pair.l0 : Nat → ByteArray → Int → Int → Int → Option (ByteArray × ByteArray × Int × Int)
 | 0, _, _, _, _ => none
 | k + 1, x0, x1, x2, x9 => if x9 < x2 then (if 0 ≤ x9 then (if x9 < (x0.size : Int) then (if (bt x0 x9) = 61 then (wicketref03_pair.j1 k x0 x1 x2 x9) else (wicketref03_pair.l0 k x0 x1 x2 (wrap64 (x9 + 1)))) else (none)) else (none)) else (wicketref03_pair.j1 k x0 x1 x2 x9)
end
def wicketref03_pair.f (k : Nat) (a0 : ByteArray) (a1 : Int) (a2 : Int) : Option (ByteArray × ByteArray × Int × Int) := wicketref03_pair.l0 k a0 a1 a2 a1
set_option maxHeartbeats 8000000 in
set_option maxRecDepth 100000 in
theorem wicketref03_pair.calls (k : Nat) (a0 : ByteArray) (a1 : Int) (a2 : Int) (r1 : ByteArray) (r2 : ByteArray) (r3 : Int) (r4 : Int) (w : World) (h : wicketref03_pair.f k a0 a1 a2 = some (r1, r2, r3, r4)) :
 Calls Tryz.prog 126 #[.string a0, .int .i64 a1, .int .i64 a2] w fun e w' => e = .returned (.tuple #[.agg #[.string r1, .string r2], .int .i64 r3, .int .i64 r4]) ∧ Below w.heap.size w w' := by
 have hu121 := Tryz.underlying121
 have HB := Aside0.mk (Below.refl w.heap.size w)
 have H : (wicketref03_pair.l0 k a0 a1 a2 a1) = some (r1, r2, r3, r4) := h
 clear h
 have HC4 := Aside0.mk H
 clear H
 go_enter Tryz.func126, Tryz.ntmps126
 go_upto_block 0 with (first | ((with_reducible refine gate_dst (N := 6) rfl ?_); refine box_event ?hg (N := 6) ?hd (cs := #[.string (⟨#[]⟩ : ByteArray), .string (⟨#[]⟩ : ByteArray)]) (t := 121) ?hr ?_; (case hd => rfl); (case hg => rfl); (case hr => (go_simp; done)); intro gb386 hg w5 hbox hb; have BK386 := Aside0.mk hbox; have GW386 := Aside0.mk ((by rw [hg]; exact (below_size HB.out) : w.heap.size ≤ gb386)); have GE386 := Aside0.mk ((by rw [hg]; exact (below_size HB.out) : w.heap.size ≤ gb386)); replace HB := Aside0.mk (below_step HB.out hb); clear hb hbox hg))
 go_cut [9] (fun v9 wc => ∃ (kq : Nat) (x9_3 : Int), v9 = .int .i64 x9_3 ∧ Aside0 (wicketref03_pair.j1 kq a0 a1 a2 x9_3 = some (r1, r2, r3, r4)) ∧ Aside0 (kq ≤ k) ∧ Aside0 (wc.heap[gb386]? = some (.cells #[.string (⟨#[]⟩ : ByteArray), .string (⟨#[]⟩ : ByteArray)] 121 (0, 0))) ∧ Aside0 (Below w.heap.size w wc))
 case first =>
  have H := HC4.out
  clear HC4
  have H' := Aside0.mk H
  clear H
  go_wp2
  go_loopg [9] k (fun kq v9 w' => ∃ (x9_1 : Int), v9 = .int .i64 x9_1 ∧ Aside0 (wicketref03_pair.l0 kq a0 a1 a2 x9_1 = some (r1, r2, r3, r4)) ∧ Aside0 (kq ≤ k) ∧ Aside0 (w'.heap[gb386]? = some (.cells #[.string (⟨#[]⟩ : ByteArray), .string (⟨#[]⟩ : ByteArray)] 121 (0, 0))) ∧ Aside0 (Below w.heap.size w w'))
  case atStart => exact ⟨(a1), rfl, H', ⟨Nat.le_refl _⟩, ⟨BK386.out⟩, ⟨HB.out⟩⟩
  case round =>
   clear H'
   obtain ⟨x9_1, rfl, HA, HK1, BK386, HB⟩ := hrel
   cases gk with
   | zero => exact absurd HA.out (by simp [wicketref03_pair.l0])
   | succ k1 =>
    have H := HA.out
    clear HA
    simp only [wicketref03_pair.l0] at H
    by_cases c6 : x9_1 < a2
    · rw [if_pos c6] at H
      have c6b0 : decide (x9_1 < a2) = true := decide_eq_true c6
      clear c6
      by_cases c7 : 0 ≤ x9_1
      · rw [if_pos c7] at H
        have c7b0 : decide (0 ≤ x9_1) = true := decide_eq_true c7
        clear c7
        by_cases c8 : x9_1 < (a0.size : Int)
        · rw [if_pos c8] at H
          have c8b0 : decide (x9_1 < (a0.size : Int)) = true := decide_eq_true c8
          clear c8
          by_cases c10 : (bt a0 x9_1) = 61
          · rw [if_pos c10] at H
            have c10b0 : ((bt a0 x9_1) == 61) = true := beq_iff_eq.mpr c10
            have c10b1 : ((bt a0 x9_1) != 61) = false := bne_eq_false_iff_eq.mpr c10
            clear c10
            have H' := Aside0.mk H
            clear H
            have p9 : 0 ≤ (x9_1 : Int) := of_decide_eq_true (by assumption)
            have q9 : x9_1 < (a0.size : Int) := of_decide_eq_true (by assumption)
            have hx9 := bt_at a0 x9_1
            replace p9 := eq_true p9
            replace q9 := eq_true q9
            go_wp2
            go_meet
            case rel => exact ⟨_, (x9_1), rfl, H', ⟨by have := HK1.out; (omega)⟩, ⟨BK386.out⟩, ⟨HB.out⟩⟩
          · rw [if_neg c10] at H
            have c10b0 : ((bt a0 x9_1) == 61) = false := beq_eq_false_iff_ne.mpr c10
            have c10b1 : ((bt a0 x9_1) != 61) = true := bne_iff_ne.mpr c10
            have H' := Aside0.mk H
            clear H
            have p9 : 0 ≤ (x9_1 : Int) := of_decide_eq_true (by assumption)
            have q9 : x9_1 < (a0.size : Int) := of_decide_eq_true (by assumption)
            have hx9 := bt_at a0 x9_1
            replace p9 := eq_true p9
            replace q9 := eq_true q9
            go_wp2
            go_roundg k1
            case measure => have := HK1.out; omega
            case rel => exact ⟨(wrap64 (x9_1 + 1)), rfl, H', ⟨by have := HK1.out; omega⟩, ⟨BK386.out⟩, ⟨HB.out⟩⟩
        · rw [if_neg c8] at H
          exact absurd H (by simp)
      · rw [if_neg c7] at H
        exact absurd H (by simp)
    · rw [if_neg c6] at H
      have c6b0 : decide (x9_1 < a2) = false := decide_eq_false c6
      clear c6
      have H' := Aside0.mk H
      clear H
      go_wp2
      go_meet
      case rel => exact ⟨_, (x9_1), rfl, H', ⟨by have := HK1.out; (omega)⟩, ⟨BK386.out⟩, ⟨HB.out⟩⟩
 case rest =>
  clear HC4
  obtain ⟨kq, x9_3, rfl, HA, HJ3, BK386, HB⟩ := hcut
  cases kq with
  | zero => exact absurd HA.out (by simp [wicketref03_pair.j1])
  | succ kj3 =>
   have H := HA.out
   clear HA
   simp only [wicketref03_pair.j1] at H
   by_cases c11 : 0 ≤ a1
   · rw [if_pos c11] at H
     have c11b0 := eq_true c11
     have c11b1 : decide (0 ≤ a1) = true := decide_eq_true c11
     clear c11
     by_cases c12 : a1 ≤ x9_3
     · rw [if_pos c12] at H
       have c12b0 := eq_true c12
       have c12b1 : decide (a1 ≤ x9_3) = true := decide_eq_true c12
       clear c12
       by_cases c13 : x9_3 ≤ (a0.size : Int)
       · rw [if_pos c13] at H
         have c13b0 := eq_true c13
         have c13b1 : decide (x9_3 ≤ (a0.size : Int)) = true := decide_eq_true c13
         clear c13
         replace H := Option.bind_eq_some_iff.mp H
         obtain ⟨⟨t387, t388, t389⟩, A140, H⟩ := H
         replace H : (if t388 = 0 then (if x9_3 = a2 then (some (t387, (⟨#[]⟩ : ByteArray), 0, 0)) else (if 0 ≤ (wrap64 (x9_3 + 1)) then (if (wrap64 (x9_3 + 1)) ≤ a2 then (if a2 ≤ (a0.size : Int) then ((wicketref03_Unescape.f kj3 (a0.extract ((wrap64 (x9_3 + 1)) : Int).toNat (a2 : Int).toNat)).bind fun bt390 => (if bt390.2.1 = 0 then (some (t387, bt390.1, 0, 0)) else (some ((⟨#[]⟩ : ByteArray), (⟨#[]⟩ : ByteArray), bt390.2.1, wrap64 ((wrap64 (x9_3 + 1)) + bt390.2.2))))) else (none)) else (none)) else (none))) else (some ((⟨#[]⟩ : ByteArray), (⟨#[]⟩ : ByteArray), t388, wrap64 (a1 + t389)))) = some (r1, r2, r3, r4) := H
         have A14 := Aside0.mk A140
         clear A140
         by_cases c15 : t388 = 0
         · rw [if_pos c15] at H
           have c15b0 : (t388 == 0) = true := beq_iff_eq.mpr c15
           have c15b1 : (t388 != 0) = false := bne_eq_false_iff_eq.mpr c15
           clear c15
           by_cases c16 : x9_3 = a2
           · rw [if_pos c16] at H
             have c16b0 : (x9_3 == a2) = true := beq_iff_eq.mpr c16
             have c16b1 : (x9_3 != a2) = false := bne_eq_false_iff_eq.mpr c16
             clear c16
             simp only [Option.some.injEq, Prod.mk.injEq] at H
             obtain ⟨rfl, rfl, rfl, rfl⟩ := H
             go_wp2_with (first | ((with_reducible refine gate_callee (f := 68) rfl ?_); refine goesL_ (some 33) rfl rfl Tryz.func68 (by kernel_rfl) rfl #[.string (a0.extract (a1 : Int).toNat (x9_3 : Int).toNat)] rfl (by ((try simp only [List.map_toArray, List.map_cons, List.map_nil]); (rfl))) ?_; (with_reducible refine (wicketref03_Unescape.calls kj3 (a0.extract (a1 : Int).toNat (x9_3 : Int).toNat) t387 t388 t389 _ A14.out).mono ?_); rintro e w17 ⟨rfl, hb⟩; refine ⟨_, rfl, ?_⟩; replace BK386 := Aside0.mk (blk_below (g := gb386) (o := .cells #[.string (⟨#[]⟩ : ByteArray), .string (⟨#[]⟩ : ByteArray)] 121 (0, 0)) BK386.out hb); replace HB := Aside0.mk (below_step HB.out hb); clear hb; obtain ⟨hcz18_0, hcz18_1, hfz18_0, hfz18_1⟩ := cz2_ BK386.out))
             refine bodyPost_ret (results_ctt rfl _ _ gb386 121 #[.string t387, .string (⟨#[]⟩ : ByteArray)] (0, 0) _ rfl (by (with_reducible repeat (first | refine blk_drewN ?_ _  | refine blk_drew ?_  | refine blk_alloc ?_ _)); refine blk_put (cs := #[.string t387, .string (⟨#[]⟩ : ByteArray)]) ?_ 1 _ rfl; (with_reducible repeat (first | refine blk_drewN ?_ _  | refine blk_drew ?_  | refine blk_alloc ?_ _)); refine blk_put (cs := #[.string (⟨#[]⟩ : ByteArray), .string (⟨#[]⟩ : ByteArray)]) ?_ 0 _ rfl; (with_reducible repeat (first | refine blk_drewN ?_ _  | refine blk_drew ?_  | refine blk_alloc ?_ _)); exact BK386.out) Tryz.underlying121 rfl (by kernel_rfl)) rfl ?_
             exact ⟨by (rfl), by (repeat (with_reducible first | exact HB.out | refine below_set ?_ GE386.out))⟩
           · rw [if_neg c16] at H
             have c16b0 : (x9_3 == a2) = false := beq_eq_false_iff_ne.mpr c16
             have c16b1 : (x9_3 != a2) = true := bne_iff_ne.mpr c16
             obtain ⟨ji19, hji19⟩ : ∃ j_ : Int, (wrap64 (x9_3 + 1)) = j_ := ⟨_, rfl⟩
             replace H : (if 0 ≤ (ji19) then (if (ji19) ≤ a2 then (if a2 ≤ (a0.size : Int) then ((wicketref03_Unescape.f kj3 (a0.extract ((ji19) : Int).toNat (a2 : Int).toNat)).bind fun bt390 => (if bt390.2.1 = 0 then (some (t387, bt390.1, 0, 0)) else (some ((⟨#[]⟩ : ByteArray), (⟨#[]⟩ : ByteArray), bt390.2.1, wrap64 ((ji19) + bt390.2.2))))) else (none)) else (none)) else (none)) = some (r1, r2, r3, r4) := by (rw [hji19] at H; exact H)
             have hji19w : (IntKind.i64.wrap (x9_3 + 1)) = ji19 := (i64_w _).trans hji19
             by_cases c20 : 0 ≤ (ji19)
             · rw [if_pos c20] at H
               have c20b0 := eq_true c20
               have c20b1 : decide (0 ≤ (ji19)) = true := decide_eq_true c20
               clear c20
               by_cases c21 : (ji19) ≤ a2
               · rw [if_pos c21] at H
                 have c21b0 := eq_true c21
                 have c21b1 : decide ((ji19) ≤ a2) = true := decide_eq_true c21
                 clear c21
                 by_cases c22 : a2 ≤ (a0.size : Int)
                 · rw [if_pos c22] at H
                   have c22b0 := eq_true c22
                   have c22b1 : decide (a2 ≤ (a0.size : Int)) = true := decide_eq_true c22
                   clear c22
                   replace H := Option.bind_eq_some_iff.mp H
                   obtain ⟨⟨t390, t391, t392⟩, A230, H⟩ := H
                   replace H : (if t391 = 0 then (some (t387, t390, 0, 0)) else (some ((⟨#[]⟩ : ByteArray), (⟨#[]⟩ : ByteArray), t391, wrap64 ((ji19) + t392)))) = some (r1, r2, r3, r4) := H
                   have A23 := Aside0.mk A230
                   clear A230
                   by_cases c24 : t391 = 0
                   · rw [if_pos c24] at H
                     have c24b0 : (t391 == 0) = true := beq_iff_eq.mpr c24
                     have c24b1 : (t391 != 0) = false := bne_eq_false_iff_eq.mpr c24
                     clear c24
                     simp only [Option.some.injEq, Prod.mk.injEq] at H
                     obtain ⟨rfl, rfl, rfl, rfl⟩ := H
                     go_wp2_with (first | ((with_reducible refine gate_callee (f := 68) rfl ?_); refine goesL_ (some 33) rfl rfl Tryz.func68 (by kernel_rfl) rfl #[.string (a0.extract (a1 : Int).toNat (x9_3 : Int).toNat)] rfl (by ((try simp only [List.map_toArray, List.map_cons, List.map_nil]); (rfl))) ?_; (with_reducible refine (wicketref03_Unescape.calls kj3 (a0.extract (a1 : Int).toNat (x9_3 : Int).toNat) t387 t388 t389 _ A14.out).mono ?_); rintro e w25 ⟨rfl, hb⟩; refine ⟨_, rfl, ?_⟩; replace BK386 := Aside0.mk (blk_below (g := gb386) (o := .cells #[.string (⟨#[]⟩ : ByteArray), .string (⟨#[]⟩ : ByteArray)] 121 (0, 0)) BK386.out hb); replace HB := Aside0.mk (below_step HB.out hb); clear hb) | ((with_reducible refine gate_callee (f := 68) rfl ?_); refine goesL_ (some 55) rfl rfl Tryz.func68 (by kernel_rfl) rfl #[.string (a0.extract ((ji19) : Int).toNat (a2 : Int).toNat)] rfl (by (try simp only [List.map_toArray, List.map_cons, List.map_nil]); (rfl)) ?_; (with_reducible refine (wicketref03_Unescape.calls kj3 (a0.extract ((ji19) : Int).toNat (a2 : Int).toNat) t390 t391 t392 _ A23.out).mono ?_); rintro e w26 ⟨rfl, hb⟩; refine ⟨_, rfl, ?_⟩; replace BK386 := Aside0.mk (blk_below (g := gb386) (o := .cells #[.string (⟨#[]⟩ : ByteArray), .string (⟨#[]⟩ : ByteArray)] 121 (0, 0)) BK386.out hb); replace HB := Aside0.mk (below_step HB.out hb); clear hb; obtain ⟨hcz27_0, hcz27_1, hfz27_0, hfz27_1⟩ := cz2_ BK386.out))
                     refine bodyPost_ret (results_ctt rfl _ _ gb386 121 #[.string t387, .string t390] (0, 0) _ rfl (by (with_reducible repeat (first | refine blk_drewN ?_ _  | refine blk_drew ?_  | refine blk_alloc ?_ _)); refine blk_put (cs := #[.string t387, .string (⟨#[]⟩ : ByteArray)]) ?_ 1 _ rfl; (with_reducible repeat (first | refine blk_drewN ?_ _  | refine blk_drew ?_  | refine blk_alloc ?_ _)); refine blk_put (cs := #[.string (⟨#[]⟩ : ByteArray), .string (⟨#[]⟩ : ByteArray)]) ?_ 0 _ rfl; (with_reducible repeat (first | refine blk_drewN ?_ _  | refine blk_drew ?_  | refine blk_alloc ?_ _)); exact BK386.out) Tryz.underlying121 rfl (by kernel_rfl)) rfl ?_
                     exact ⟨by (rfl), by (repeat (with_reducible first | exact HB.out | refine below_set ?_ GE386.out))⟩
                   · rw [if_neg c24] at H
                     have c24b0 : (t391 == 0) = false := beq_eq_false_iff_ne.mpr c24
                     have c24b1 : (t391 != 0) = true := bne_iff_ne.mpr c24
                     simp only [Option.some.injEq, Prod.mk.injEq] at H
                     obtain ⟨rfl, rfl, rfl, rfl⟩ := H
                     go_wp2_with (first | ((with_reducible refine gate_callee (f := 68) rfl ?_); refine goesL_ (some 33) rfl rfl Tryz.func68 (by kernel_rfl) rfl #[.string (a0.extract (a1 : Int).toNat (x9_3 : Int).toNat)] rfl (by ((try simp only [List.map_toArray, List.map_cons, List.map_nil]); (rfl))) ?_; (with_reducible refine (wicketref03_Unescape.calls kj3 (a0.extract (a1 : Int).toNat (x9_3 : Int).toNat) t387 t388 t389 _ A14.out).mono ?_); rintro e w28 ⟨rfl, hb⟩; refine ⟨_, rfl, ?_⟩; replace BK386 := Aside0.mk (blk_below (g := gb386) (o := .cells #[.string (⟨#[]⟩ : ByteArray), .string (⟨#[]⟩ : ByteArray)] 121 (0, 0)) BK386.out hb); replace HB := Aside0.mk (below_step HB.out hb); clear hb) | ((with_reducible refine gate_callee (f := 68) rfl ?_); refine goesL_ (some 55) rfl rfl Tryz.func68 (by kernel_rfl) rfl #[.string (a0.extract ((ji19) : Int).toNat (a2 : Int).toNat)] rfl (by (try simp only [List.map_toArray, List.map_cons, List.map_nil]); (rfl)) ?_; (with_reducible refine (wicketref03_Unescape.calls kj3 (a0.extract ((ji19) : Int).toNat (a2 : Int).toNat) t390 t391 t392 _ A23.out).mono ?_); rintro e w29 ⟨rfl, hb⟩; refine ⟨_, rfl, ?_⟩; replace BK386 := Aside0.mk (blk_below (g := gb386) (o := .cells #[.string (⟨#[]⟩ : ByteArray), .string (⟨#[]⟩ : ByteArray)] 121 (0, 0)) BK386.out hb); replace HB := Aside0.mk (below_step HB.out hb); clear hb; obtain ⟨hcz30_0, hcz30_1, hfz30_0, hfz30_1⟩ := cz2_ BK386.out))
                     refine bodyPost_ret (results_ctt rfl _ _ gb386 121 #[.string (⟨#[]⟩ : ByteArray), .string (⟨#[]⟩ : ByteArray)] (0, 0) _ rfl (by (with_reducible repeat (first | refine blk_drewN ?_ _  | refine blk_drew ?_  | refine blk_alloc ?_ _)); refine blk_put (cs := #[.string (⟨#[]⟩ : ByteArray), .string (⟨#[]⟩ : ByteArray)]) ?_ 1 _ rfl; (with_reducible repeat (first | refine blk_drewN ?_ _  | refine blk_drew ?_  | refine blk_alloc ?_ _)); refine blk_put (cs := #[.string (⟨#[]⟩ : ByteArray), .string (⟨#[]⟩ : ByteArray)]) ?_ 0 _ rfl; (with_reducible repeat (first | refine blk_drewN ?_ _  | refine blk_drew ?_  | refine blk_alloc ?_ _)); exact BK386.out) Tryz.underlying121 rfl (by kernel_rfl)) rfl ?_
                     exact ⟨by (rfl), by (repeat (with_reducible first | exact HB.out | refine below_set ?_ GE386.out))⟩
                 · rw [if_neg c22] at H
                   exact absurd H (by simp)
               · rw [if_neg c21] at H
                 exact absurd H (by simp)
             · rw [if_neg c20] at H
               exact absurd H (by simp)
         · rw [if_neg c15] at H
           have c15b0 : (t388 == 0) = false := beq_eq_false_iff_ne.mpr c15
           have c15b1 : (t388 != 0) = true := bne_iff_ne.mpr c15
           simp only [Option.some.injEq, Prod.mk.injEq] at H
           obtain ⟨rfl, rfl, rfl, rfl⟩ := H
           go_wp2_with (first | ((with_reducible refine gate_callee (f := 68) rfl ?_); refine goesL_ (some 33) rfl rfl Tryz.func68 (by kernel_rfl) rfl #[.string (a0.extract (a1 : Int).toNat (x9_3 : Int).toNat)] rfl (by ((try simp only [List.map_toArray, List.map_cons, List.map_nil]); (rfl))) ?_; (with_reducible refine (wicketref03_Unescape.calls kj3 (a0.extract (a1 : Int).toNat (x9_3 : Int).toNat) t387 t388 t389 _ A14.out).mono ?_); rintro e w31 ⟨rfl, hb⟩; refine ⟨_, rfl, ?_⟩; replace BK386 := Aside0.mk (blk_below (g := gb386) (o := .cells #[.string (⟨#[]⟩ : ByteArray), .string (⟨#[]⟩ : ByteArray)] 121 (0, 0)) BK386.out hb); replace HB := Aside0.mk (below_step HB.out hb); clear hb; obtain ⟨hcz32_0, hcz32_1, hfz32_0, hfz32_1⟩ := cz2_ BK386.out))
           refine bodyPost_ret (results_ctt rfl _ _ gb386 121 #[.string (⟨#[]⟩ : ByteArray), .string (⟨#[]⟩ : ByteArray)] (0, 0) _ rfl (by (with_reducible repeat (first | refine blk_drewN ?_ _  | refine blk_drew ?_  | refine blk_alloc ?_ _)); refine blk_put (cs := #[.string (⟨#[]⟩ : ByteArray), .string (⟨#[]⟩ : ByteArray)]) ?_ 1 _ rfl; (with_reducible repeat (first | refine blk_drewN ?_ _  | refine blk_drew ?_  | refine blk_alloc ?_ _)); refine blk_put (cs := #[.string (⟨#[]⟩ : ByteArray), .string (⟨#[]⟩ : ByteArray)]) ?_ 0 _ rfl; (with_reducible repeat (first | refine blk_drewN ?_ _  | refine blk_drew ?_  | refine blk_alloc ?_ _)); exact BK386.out) Tryz.underlying121 rfl (by kernel_rfl)) rfl ?_
           exact ⟨by (rfl), by (repeat (with_reducible first | exact HB.out | refine below_set ?_ GE386.out))⟩
       · rw [if_neg c13] at H
         exact absurd H (by simp)
     · rw [if_neg c12] at H
       exact absurd H (by simp)
   · rw [if_neg c11] at H
     exact absurd H (by simp)
end Go.Proofs.YtmimipgmhgalaaaGreatDoor.PAll
end
section
namespace Go.Proofs.YtmimipgmhgalaaaGreatDoor.PAll
open Go.RowKit Go.Proofs.YtmimipgmhgalaaaGreatDoorW.PrintWords Go.Proofs.YtmimipgmhgalaaaGreatDoorW.PrintLast Go.Proofs.YtmimipgmhgalaaaGreatDoorW.PrintMore
attribute [local go_sem] max2_int min2_int max_two min_two max_three min_three max_four min_four
set_option linter.unusedVariables false
set_option linter.unusedSimpArgs false
mutual
def wicketref03_Parse.l0 : Nat → ByteArray → List (S121) → Int → Int → Option ((List (S121)) × Int × Int)
 | 0, _, _, _, _ => none
 | k + 1, x0, x5, x6, x7 => if x7 ≤ (x0.size : Int) then (if x7 < (x0.size : Int) then (if 0 ≤ x7 then (wicketref03_Parse.j1 k x0 x5 x6 x7 ((bt x0 x7) != 38)) else (none)) else (wicketref03_Parse.j1 k x0 x5 x6 x7 false)) else (some (x5, 0, 0))
def wicketref03_Parse.j1 : Nat → ByteArray → List (S121) → Int → Int → Bool → Option ((List (S121)) × Int × Int)
 | 0, _, _, _, _, _ => none
 | k + 1, x0, x5, x6, x7, x29 => if x29 = true then (wicketref03_Parse.l0 k x0 x5 x6 (wrap64 (x7 + 1))) else (if x7 > x6 then (if (x5.length : Int) = 64 then (some (([] : List (S121)), 32, x6)) else ((wicketref03_pair.f k x0 x6 x7).bind fun bt393 => (if bt393.2.2.1 = 0 then (if x5.length < 4398046511104 then (wicketref03_Parse.l0 k x0 (x5 ++ [(⟨bt393.1, bt393.2.1⟩ : S121)]) (wrap64 (x7 + 1)) (wrap64 (x7 + 1))) else (none)) else (some (([] : List (S121)), bt393.2.2.1, bt393.2.2.2))))) else (wicketref03_Parse.l0 k x0 x5 (wrap64 (x7 + 1)) (wrap64 (x7 + 1))))
end
def wicketref03_Parse.f (k : Nat) (a0 : ByteArray) : Option ((List (S121)) × Int × Int) := if (a0.size : Int) > 16384 then (some (([] : List (S121)), 1, 0)) else (wicketref03_Parse.l0 k a0 ([] : List (S121)) 0 0)
set_option maxHeartbeats 8000000 in
set_option maxRecDepth 100000 in
theorem wicketref03_Parse.calls (k : Nat) (a0 : ByteArray) (r1 : List (S121)) (r2 : Int) (r3 : Int) (w : World) (h : wicketref03_Parse.f k a0 = some (r1, r2, r3)) :
 Calls Tryz.prog 91 #[.string a0] w fun e w' => ∃ v0_ : Value, e = .returned (.tuple #[v0_, .int .i64 r2, .int .i64 r3]) ∧ Kd.R k121 121 w' w.heap.size (fun _ => True) v0_ r1 ∧ Below w.heap.size w w' := by
 have hu121 := Tryz.underlying121
 have HB := Aside0.mk (Below.refl w.heap.size w)
 have H : (if (a0.size : Int) > 16384 then (some (([] : List (S121)), 1, 0)) else (wicketref03_Parse.l0 k a0 ([] : List (S121)) 0 0)) = some (r1, r2, r3) := h
 clear h
 by_cases c2 : (a0.size : Int) > 16384
 · rw [if_pos c2] at H
   have c2b0 : decide (16384 < (a0.size : Int)) = true := decide_eq_true c2
   have c2b1 : decide (16384 < a0.size) = true := decide_eq_true (by omega)
   clear c2
   simp only [Option.some.injEq, Prod.mk.injEq] at H
   obtain ⟨rfl, rfl, rfl⟩ := H
   go_enter Tryz.func91, Tryz.ntmps91
   go_wp2
   go_ret3
   exact ⟨_, rfl, by (exact Kd.R_nil _ _ _ _ _), by (with_reducible exact HB.out)⟩
 · rw [if_neg c2] at H
   have c2b0 : decide (16384 < (a0.size : Int)) = false := decide_eq_false c2
   have c2b1 : decide (16384 < a0.size) = false := decide_eq_false (by omega)
   clear c2
   have H' := Aside0.mk H
   clear H
   go_enter Tryz.func91, Tryz.ntmps91
   go_wp2
   go_loopg [5, 6, 7] k (fun kq v5 v6 v7 w' => ∃ (x5_1 : List (S121)) (x6_1 : Int) (x7_1 : Int), v6 = .int .i64 x6_1 ∧ v7 = .int .i64 x7_1 ∧ Aside0 (wicketref03_Parse.l0 kq a0 x5_1 x6_1 x7_1 = some (r1, r2, r3)) ∧ Aside0 (kq ≤ k) ∧ Aside0 (Kd.R k121 121 w' w.heap.size (fun _ => True) v5 x5_1) ∧ Aside0 (Below w.heap.size w w'))
   case atStart => exact ⟨(([] : List (S121))), (0), (0), rfl, rfl, H', ⟨Nat.le_refl _⟩, ⟨by (exact Kd.R_nil _ _ _ _ _)⟩, ⟨HB.out⟩⟩
   case round =>
    clear H' c2b0 c2b1
    obtain ⟨x5_1, x6_1, x7_1, rfl, rfl, HA, HK1, HO_5, HB⟩ := hrel
    cases gk with
    | zero => exact absurd HA.out (by simp [wicketref03_Parse.l0])
    | succ k1 =>
     have H := HA.out
     clear HA
     simp only [wicketref03_Parse.l0] at H
     by_cases c3 : x7_1 ≤ (a0.size : Int)
     · rw [if_pos c3] at H
       have c3b0 : decide (x7_1 ≤ (a0.size : Int)) = true := decide_eq_true c3
       clear c3
       have HC4 := Aside0.mk H
       clear H
       go_upto_region 8 with (fail)
       go_cut [29] (fun v29 wc => ∃ (kq : Nat) (x29_3 : Bool), v29 = .bool x29_3 ∧ Aside0 (wicketref03_Parse.j1 kq a0 x5_1 x6_1 x7_1 x29_3 = some (r1, r2, r3)) ∧ Aside0 (kq ≤ k1) ∧ Aside0 (Kd.R k121 121 wc w.heap.size (fun _ => True) u5 x5_1) ∧ Aside0 (Below w.heap.size w wc))
       case first =>
        have H := HC4.out
        clear HC4
        by_cases c5 : x7_1 < (a0.size : Int)
        · rw [if_pos c5] at H
          have c5b0 : decide (x7_1 < (a0.size : Int)) = true := decide_eq_true c5
          clear c5
          by_cases c6 : 0 ≤ x7_1
          · rw [if_pos c6] at H
            have c6b0 : decide (0 ≤ x7_1) = true := decide_eq_true c6
            clear c6
            have H' := Aside0.mk H
            clear H
            have p7 : 0 ≤ (x7_1 : Int) := of_decide_eq_true (by assumption)
            have q7 : x7_1 < (a0.size : Int) := of_decide_eq_true (by assumption)
            have hx7 := bt_at a0 x7_1
            replace p7 := eq_true p7
            replace q7 := eq_true q7
            go_wp2
            go_meet
            case rel => exact ⟨_, (((bt a0 x7_1) != 38)), rfl, H', ⟨by have := HK1.out; (omega)⟩, ⟨HO_5.out⟩, ⟨HB.out⟩⟩
          · rw [if_neg c6] at H
            exact absurd H (by simp)
        · rw [if_neg c5] at H
          have c5b0 : decide (x7_1 < (a0.size : Int)) = false := decide_eq_false c5
          clear c5
          have H' := Aside0.mk H
          clear H
          go_wp2
          go_meet
          case rel => exact ⟨_, (false), rfl, H', ⟨by have := HK1.out; (omega)⟩, ⟨HO_5.out⟩, ⟨HB.out⟩⟩
       case rest =>
        clear HC4 c3b0
        obtain ⟨kq, x29_3, rfl, HA, HJ3, HO_5, HB⟩ := hcut
        cases kq with
        | zero => exact absurd HA.out (by simp [wicketref03_Parse.j1])
        | succ kj3 =>
         have H := HA.out
         clear HA
         simp only [wicketref03_Parse.j1] at H
         by_cases c8 : x29_3 = true
         · subst c8
           have H1 : (wicketref03_Parse.l0 kj3 a0 x5_1 x6_1 (wrap64 (x7_1 + 1))) = some (r1, r2, r3) := by rw [if_pos rfl] at H; exact H
           clear H
           have H := H1
           clear H1
           have H' := Aside0.mk H
           clear H
           go_wp2
           go_roundg kj3
           case measure => have := HK1.out; have := HJ3.out; omega
           case rel => exact ⟨(x5_1), (x6_1), (wrap64 (x7_1 + 1)), rfl, rfl, H', ⟨by have := HK1.out; have := HJ3.out; omega⟩, ⟨HO_5.out⟩, ⟨HB.out⟩⟩
         · replace c8 := Bool.eq_false_iff.mpr c8
           subst c8
           have H1 : (if x7_1 > x6_1 then (if (x5_1.length : Int) = 64 then (some (([] : List (S121)), 32, x6_1)) else ((wicketref03_pair.f kj3 a0 x6_1 x7_1).bind fun bt393 => (if bt393.2.2.1 = 0 then (if x5_1.length < 4398046511104 then (wicketref03_Parse.l0 kj3 a0 (x5_1 ++ [(⟨bt393.1, bt393.2.1⟩ : S121)]) (wrap64 (x7_1 + 1)) (wrap64 (x7_1 + 1))) else (none)) else (some (([] : List (S121)), bt393.2.2.1, bt393.2.2.2))))) else (wicketref03_Parse.l0 kj3 a0 x5_1 (wrap64 (x7_1 + 1)) (wrap64 (x7_1 + 1)))) = some (r1, r2, r3) := by rw [if_neg (show ¬ (false = true) by decide)] at H; exact H
           clear H
           have H := H1
           clear H1
           by_cases c9 : x7_1 > x6_1
           · rw [if_pos c9] at H
             have c9b0 : decide (x6_1 < x7_1) = true := decide_eq_true c9
             clear c9
             by_cases c10 : (x5_1.length : Int) = 64
             · rw [if_pos c10] at H
               have c10b0 : ((x5_1.length : Int) == 64) = true := beq_iff_eq.mpr c10
               have c10b1 : ((x5_1.length : Int) != 64) = false := bne_eq_false_iff_eq.mpr c10
               clear c10
               simp only [Option.some.injEq, Prod.mk.injEq] at H
               obtain ⟨rfl, rfl, rfl⟩ := H
               obtain ⟨Ao11, co11, eo11⟩ := Kd.R_slice HO_5.out
               subst eo11
               go_wp2
               go_ret3
               exact ⟨_, rfl, by (exact Kd.R_nil _ _ _ _ _), by (with_reducible exact HB.out)⟩
             · rw [if_neg c10] at H
               have c10b0 : ((x5_1.length : Int) == 64) = false := beq_eq_false_iff_ne.mpr c10
               have c10b1 : ((x5_1.length : Int) != 64) = true := bne_iff_ne.mpr c10
               replace H := Option.bind_eq_some_iff.mp H
               obtain ⟨⟨t393, t394, t395, t396⟩, A120, H⟩ := H
               replace H : (if t395 = 0 then (if x5_1.length < 4398046511104 then (wicketref03_Parse.l0 kj3 a0 (x5_1 ++ [(⟨t393, t394⟩ : S121)]) (wrap64 (x7_1 + 1)) (wrap64 (x7_1 + 1))) else (none)) else (some (([] : List (S121)), t395, t396))) = some (r1, r2, r3) := H
               have A12 := Aside0.mk A120
               clear A120
               by_cases c13 : t395 = 0
               · rw [if_pos c13] at H
                 have c13b0 : (t395 == 0) = true := beq_iff_eq.mpr c13
                 have c13b1 : (t395 != 0) = false := bne_eq_false_iff_eq.mpr c13
                 clear c13
                 by_cases c14 : x5_1.length < 4398046511104
                 · rw [if_pos c14] at H
                   have LMc14 := Aside0.mk c14
                   clear c14
                   obtain ⟨y398, hy398⟩ : ∃ y_ : List (S121), y_ = (x5_1 ++ [(⟨t393, t394⟩ : S121)]) := ⟨_, rfl⟩
                   replace H : (wicketref03_Parse.l0 kj3 a0 y398 (wrap64 (x7_1 + 1)) (wrap64 (x7_1 + 1))) = some (r1, r2, r3) := by (rw [hy398]; with_reducible exact H)
                   have Ny398 := Aside0.mk hy398
                   clear hy398
                   have H' := Aside0.mk H
                   clear H
                   obtain ⟨Ao15, co15, eo15⟩ := Kd.R_slice HO_5.out
                   subst eo15
                   go_wp2_with (first | ((with_reducible refine gate_callee (f := 126) rfl ?_); refine goesL_ (some 41) rfl rfl Tryz.func126 (by kernel_rfl) rfl #[.string a0, .int .i64 x6_1, .int .i64 x7_1] rfl (by ((try simp only [List.map_toArray, List.map_cons, List.map_nil]); (rfl))) ?_; (with_reducible refine (wicketref03_pair.calls kj3 a0 x6_1 x7_1 t393 t394 t395 t396 _ A12.out).mono ?_); rintro e w16 ⟨rfl, hb⟩; refine ⟨_, rfl, ?_⟩; replace HO_5 := Aside0.mk (Kd.R_below HO_5.out hb); replace HB := Aside0.mk (below_step HB.out hb); clear hb) | ((with_reducible refine gate_dst (N := 8) rfl ?_); refine box_event ?hg (N := 8) ?hd (cs := #[.string (⟨#[]⟩ : ByteArray), .string (⟨#[]⟩ : ByteArray)]) (t := 121) ?hr ?_; (case hd => rfl); (case hg => rfl); (case hr => (go_simp; done)); intro gb397 hg w17 hbox hb; replace HO_5 := Aside0.mk (Kd.R_below (Kd.R_elderB HO_5.out gb397 (Nat.le_of_eq hg.symm)) hb); have BK397 := Aside0.mk hbox; have GW397 := Aside0.mk ((by rw [hg]; exact (below_size HB.out) : w.heap.size ≤ gb397)); have GE397 := Aside0.mk ((by rw [hg]; exact (below_size HB.out) : w.heap.size ≤ gb397)); replace HB := Aside0.mk (below_step HB.out hb); clear hb hbox hg; obtain ⟨hcz18_0, hcz18_1, hfz18_0, hfz18_1⟩ := cz2_ BK397.out) | ((with_reducible refine gate_builtin (b := .append) (xs := #[.tmp 49, .tmp 51]) rfl ?_); at_builtin; refine Kd.R_append k121 (w0 := w) w.heap.size rfl (.tmp 49) (.tmp 51) 65 121 (.agg #[(.string ⟨#[]⟩), (.string ⟨#[]⟩)]) 32 rfl Tryz.underlying65 info121 rfl (by decide) (by omega) (.slice Ao15 x5_1.length co15) x5_1 (⟨t393, t394⟩ : S121) [.string t393, .string t394] (fun k_ => k_ ≠ gb397) (fun _ => False) rfl (by (go_simp; done)) ?aP (fun _ hk => hk.elim) ?aF ?aO ?aB ?aS ?aL ?_; (case aP => exact k121_mkM _ _ _ (⟨t393, t394⟩ : S121)); (case aB => exact (by (repeat (with_reducible first | exact HB.out | refine below_set ?_ GE397.out)))); (case aF => exact (fun k_ hk => Kd.freshB (g := gb397) (o := .cells #[.string t393, .string t394] 121 (0, 0)) (by (with_reducible repeat (first | refine blk_drewN ?_ _  | refine blk_drew ?_  | refine blk_alloc ?_ _)); refine blk_put (cs := #[.string t393, .string (⟨#[]⟩ : ByteArray)]) ?_ 1 _ rfl; (with_reducible repeat (first | refine blk_drewN ?_ _  | refine blk_drew ?_  | refine blk_alloc ?_ _)); refine blk_put (cs := #[.string (⟨#[]⟩ : ByteArray), .string (⟨#[]⟩ : ByteArray)]) ?_ 0 _ rfl; (with_reducible repeat (first | refine blk_drewN ?_ _  | refine blk_drew ?_  | refine blk_alloc ?_ _)); exact BK397.out) k_ hk)); (case aO => exact (by (with_reducible repeat (first | apply Kd.R_alloc  | apply Kd.R_drewN  | apply Kd.R_drew)); exact Kd.R_mono (Kd.R_far (p := ⟨gb397, 1, none⟩) (Kd.R_far (p := ⟨gb397, 0, none⟩) (Kd.R_mono HO_5.out (fun k_ hk => (⟨hk, hk.2⟩ : _ ∧ k_ ≠ gb397))) (fun _ hk => hk.2) (.string t393)) (fun _ hk => hk.2) (.string t394)) (fun _ hk => hk.1.2))); (case aS => exact (below_size (by (repeat (with_reducible first | exact HB.out | refine below_set ?_ GE397.out))))); (case aL => have := LMc14.out; omega); intro v399 w19 ho hb hg hat; rw [← Ny398.out] at ho; have n0_ := Aside0.mk (blk_grown (g := gb397) (o := .cells #[.string t393, .string t394] 121 (0, 0)) (by (with_reducible repeat (first | refine blk_drewN ?_ _  | refine blk_drew ?_  | refine blk_alloc ?_ _)); refine blk_put (cs := #[.string t393, .string (⟨#[]⟩ : ByteArray)]) ?_ 1 _ rfl; (with_reducible repeat (first | refine blk_drewN ?_ _  | refine blk_drew ?_  | refine blk_alloc ?_ _)); refine blk_put (cs := #[.string (⟨#[]⟩ : ByteArray), .string (⟨#[]⟩ : ByteArray)]) ?_ 0 _ rfl; (with_reducible repeat (first | refine blk_drewN ?_ _  | refine blk_drew ?_  | refine blk_alloc ?_ _)); exact BK397.out) hg (Kd.R_away HO_5.out (fun _ hk => hk.2))); have n1_ := Aside0.mk hb; have n2_ := Aside0.mk ho; clear BK397 HB HO_5; have BK397 := n0_; have HB := n1_; have HO400 := n2_; clear n0_ n1_ n2_; clear ho hb hg hat))
                   go_roundg kj3
                   case measure => have := HK1.out; have := HJ3.out; omega
                   case rel => exact ⟨(y398), (wrap64 (x7_1 + 1)), (wrap64 (x7_1 + 1)), rfl, rfl, H', ⟨by have := HK1.out; have := HJ3.out; omega⟩, ⟨by (with_reducible repeat (first | apply Kd.R_alloc  | apply Kd.R_drewN  | apply Kd.R_drew)); exact Kd.R_mono HO400.out (fun _ hk => trivial)⟩, ⟨HB.out⟩⟩
                 · rw [if_neg c14] at H
                   exact absurd H (by simp)
               · rw [if_neg c13] at H
                 have c13b0 : (t395 == 0) = false := beq_eq_false_iff_ne.mpr c13
                 have c13b1 : (t395 != 0) = true := bne_iff_ne.mpr c13
                 simp only [Option.some.injEq, Prod.mk.injEq] at H
                 obtain ⟨rfl, rfl, rfl⟩ := H
                 obtain ⟨Ao20, co20, eo20⟩ := Kd.R_slice HO_5.out
                 subst eo20
                 go_wp2_with (first | ((with_reducible refine gate_callee (f := 126) rfl ?_); refine goesL_ (some 41) rfl rfl Tryz.func126 (by kernel_rfl) rfl #[.string a0, .int .i64 x6_1, .int .i64 x7_1] rfl (by ((try simp only [List.map_toArray, List.map_cons, List.map_nil]); (rfl))) ?_; (with_reducible refine (wicketref03_pair.calls kj3 a0 x6_1 x7_1 t393 t394 t395 t396 _ A12.out).mono ?_); rintro e w21 ⟨rfl, hb⟩; refine ⟨_, rfl, ?_⟩; replace HO_5 := Aside0.mk (Kd.R_below HO_5.out hb); replace HB := Aside0.mk (below_step HB.out hb); clear hb) | ((with_reducible refine gate_dst (N := 8) rfl ?_); refine box_event ?hg (N := 8) ?hd (cs := #[.string (⟨#[]⟩ : ByteArray), .string (⟨#[]⟩ : ByteArray)]) (t := 121) ?hr ?_; (case hd => rfl); (case hg => rfl); (case hr => (go_simp; done)); intro gb397 hg w22 hbox hb; replace HO_5 := Aside0.mk (Kd.R_below (Kd.R_elderB HO_5.out gb397 (Nat.le_of_eq hg.symm)) hb); have BK397 := Aside0.mk hbox; have GW397 := Aside0.mk ((by rw [hg]; exact (below_size HB.out) : w.heap.size ≤ gb397)); have GE397 := Aside0.mk ((by rw [hg]; exact (below_size HB.out) : w.heap.size ≤ gb397)); replace HB := Aside0.mk (below_step HB.out hb); clear hb hbox hg; obtain ⟨hcz23_0, hcz23_1, hfz23_0, hfz23_1⟩ := cz2_ BK397.out))
                 go_ret3
                 exact ⟨_, rfl, by (exact Kd.R_nil _ _ _ _ _), by (repeat (with_reducible first | exact HB.out | refine below_set ?_ GE397.out))⟩
           · rw [if_neg c9] at H
             have c9b0 : decide (x6_1 < x7_1) = false := decide_eq_false c9
             clear c9
             have H' := Aside0.mk H
             clear H
             go_wp2
             go_roundg kj3
             case measure => have := HK1.out; have := HJ3.out; omega
             case rel => exact ⟨(x5_1), (wrap64 (x7_1 + 1)), (wrap64 (x7_1 + 1)), rfl, rfl, H', ⟨by have := HK1.out; have := HJ3.out; omega⟩, ⟨HO_5.out⟩, ⟨HB.out⟩⟩
     · rw [if_neg c3] at H
       have c3b0 : decide (x7_1 ≤ (a0.size : Int)) = false := decide_eq_false c3
       clear c3
       simp only [Option.some.injEq, Prod.mk.injEq] at H
       obtain ⟨rfl, rfl, rfl⟩ := H
       go_wp2
       go_ret3
       exact ⟨_, rfl, by ((with_reducible repeat (first | apply Kd.R_alloc  | apply Kd.R_drewN  | apply Kd.R_drew)); exact HO_5.out), by (with_reducible exact HB.out)⟩
def wicketref11_grants.l0 : Nat → Int → Int → List ByteArray → Option (Int)
 | 0, _, _, _ => none
 | k + 1, x5, x6, x10 => if x6 < (x10.length : Int) then (if 0 ≤ x6 then (if (rdOf ByteArray.empty x10 x6).toList = ([100, 101, 118, 105, 99, 101] : List UInt8) then (wicketref11_grants.l0 k (wrap64 (x5 + 1)) (wrap64 (x6 + 1)) x10) else (if (rdOf ByteArray.empty x10 x6).toList = ([99, 105, 98, 97] : List UInt8) then (wicketref11_grants.l0 k (wrap64 (x5 + 2)) (wrap64 (x6 + 1)) x10) else (some 0))) else (none)) else (some x5)
def wicketref11_grants.f (k : Nat) (a0 : ByteArray) : Option (Int) := (wicketref03_Scopes.f k a0).bind fun bt401 => (if bt401.2 = 0 then (wicketref11_grants.l0 k 0 0 bt401.1) else (some 0))
set_option maxHeartbeats 8000000 in
set_option maxRecDepth 100000 in
theorem wicketref11_grants.calls (k : Nat) (a0 : ByteArray) (r : Int) (w : World) (h : wicketref11_grants.f k a0 = some r) :
 Calls Tryz.prog 92 #[.string a0] w fun e w' => e = .returned (.int .i64 r) ∧ Below w.heap.size w w' := by
 have HB := Aside0.mk (Below.refl w.heap.size w)
 have H : ((wicketref03_Scopes.f k a0).bind fun bt401 => (if bt401.2 = 0 then (wicketref11_grants.l0 k 0 0 bt401.1) else (some 0))) = some r := h
 clear h
 replace H := Option.bind_eq_some_iff.mp H
 obtain ⟨⟨t401, t402⟩, A20, H⟩ := H
 replace H : (if t402 = 0 then (wicketref11_grants.l0 k 0 0 t401) else (some 0)) = some r := H
 have A2 := Aside0.mk A20
 clear A20
 by_cases c3 : t402 = 0
 · rw [if_pos c3] at H
   have c3b0 : (t402 == 0) = true := beq_iff_eq.mpr c3
   have c3b1 : (t402 != 0) = false := bne_eq_false_iff_eq.mpr c3
   clear c3
   have H' := Aside0.mk H
   clear H
   go_enter Tryz.func92, Tryz.ntmps92
   go_wp2_with (first | ((with_reducible refine gate_callee (f := 43) rfl ?_); refine goesL_ (some 9) rfl rfl Tryz.func43 (by kernel_rfl) rfl #[.string a0] rfl (by ((try simp only [List.map_toArray, List.map_cons, List.map_nil]); (rfl))) ?_; (with_reducible refine (wicketref03_Scopes.calls k a0 t401 t402 _ A2.out).mono ?_); rintro e w4 ⟨v403, rfl, ho0, hb⟩; refine ⟨_, rfl, ?_⟩; have HO404 := Aside0.mk (Kd.R_lower ho0 (below_size HB.out)); replace HB := Aside0.mk (below_step HB.out hb); clear hb ho0))
   go_loopg [5, 6] k (fun kq v5 v6 w' => ∃ (x5_1 : Int) (x6_1 : Int), v5 = .int .i64 x5_1 ∧ v6 = .int .i64 x6_1 ∧ Aside0 (wicketref11_grants.l0 kq x5_1 x6_1 t401 = some r) ∧ Aside0 (kq ≤ k) ∧ Aside0 (Kd.R Kd.string 9 w' w.heap.size (fun _ => True) v403 t401) ∧ Aside0 (Below w.heap.size w w'))
   case atStart => exact ⟨(0), (0), rfl, rfl, H', ⟨Nat.le_refl _⟩, ⟨HO404.out⟩, ⟨HB.out⟩⟩
   case round =>
    clear H' c3b0 c3b1
    obtain ⟨x5_1, x6_1, rfl, rfl, HA, HK1, HO_10, HB⟩ := hrel
    cases gk with
    | zero => exact absurd HA.out (by simp [wicketref11_grants.l0])
    | succ k1 =>
     have H := HA.out
     clear HA
     simp only [wicketref11_grants.l0] at H
     by_cases c5 : x6_1 < (t401.length : Int)
     · rw [if_pos c5] at H
       have c5b0 : decide (x6_1 < (t401.length : Int)) = true := decide_eq_true c5
       clear c5
       by_cases c6 : 0 ≤ x6_1
       · rw [if_pos c6] at H
         have c6b0 : decide (0 ≤ x6_1) = true := decide_eq_true c6
         clear c6
         by_cases c7 : (rdOf ByteArray.empty t401 x6_1).toList = ([100, 101, 118, 105, 99, 101] : List UInt8)
         · rw [if_pos c7] at H
           have c7b0 : ((rdOf ByteArray.empty t401 x6_1).toList == ([100, 101, 118, 105, 99, 101] : List UInt8)) = true := beq_iff_eq.mpr c7
           have c7b1 : ((rdOf ByteArray.empty t401 x6_1).toList != ([100, 101, 118, 105, 99, 101] : List UInt8)) = false := bne_eq_false_iff_eq.mpr c7
           clear c7
           have H' := Aside0.mk H
           clear H
           obtain ⟨Ao8, co8, eo8⟩ := Kd.R_slice HO_10.out
           subst eo8
           have p405 : 0 ≤ (x6_1 : Int) := of_decide_eq_true (by assumption)
           have q405 : x6_1 < (t401.length : Int) := of_decide_eq_true (by assumption)
           obtain ⟨ad405, e405, hx405_0⟩ := Kd.at_string (Kd.R_reads' HO_10.out).2.2 x6_1 p405 q405
           cases e405
           replace p405 := eq_true p405
           replace q405 := eq_true q405
           go_wp2
           go_roundg k1
           case measure => have := HK1.out; omega
           case rel => exact ⟨(wrap64 (x5_1 + 1)), (wrap64 (x6_1 + 1)), rfl, rfl, H', ⟨by have := HK1.out; omega⟩, ⟨HO_10.out⟩, ⟨HB.out⟩⟩
         · rw [if_neg c7] at H
           have c7b0 : ((rdOf ByteArray.empty t401 x6_1).toList == ([100, 101, 118, 105, 99, 101] : List UInt8)) = false := beq_eq_false_iff_ne.mpr c7
           have c7b1 : ((rdOf ByteArray.empty t401 x6_1).toList != ([100, 101, 118, 105, 99, 101] : List UInt8)) = true := bne_iff_ne.mpr c7
           by_cases c9 : (rdOf ByteArray.empty t401 x6_1).toList = ([99, 105, 98, 97] : List UInt8)
           · rw [if_pos c9] at H
             have c9b0 : ((rdOf ByteArray.empty t401 x6_1).toList == ([99, 105, 98, 97] : List UInt8)) = true := beq_iff_eq.mpr c9
             have c9b1 : ((rdOf ByteArray.empty t401 x6_1).toList != ([99, 105, 98, 97] : List UInt8)) = false := bne_eq_false_iff_eq.mpr c9
             clear c9
             have H' := Aside0.mk H
             clear H
             obtain ⟨Ao10, co10, eo10⟩ := Kd.R_slice HO_10.out
             subst eo10
             have p405 : 0 ≤ (x6_1 : Int) := of_decide_eq_true (by assumption)
             have q405 : x6_1 < (t401.length : Int) := of_decide_eq_true (by assumption)
             obtain ⟨ad405, e405, hx405_0⟩ := Kd.at_string (Kd.R_reads' HO_10.out).2.2 x6_1 p405 q405
             cases e405
             replace p405 := eq_true p405
             replace q405 := eq_true q405
             go_wp2
             go_roundg k1
             case measure => have := HK1.out; omega
             case rel => exact ⟨(wrap64 (x5_1 + 2)), (wrap64 (x6_1 + 1)), rfl, rfl, H', ⟨by have := HK1.out; omega⟩, ⟨HO_10.out⟩, ⟨HB.out⟩⟩
           · rw [if_neg c9] at H
             have c9b0 : ((rdOf ByteArray.empty t401 x6_1).toList == ([99, 105, 98, 97] : List UInt8)) = false := beq_eq_false_iff_ne.mpr c9
             have c9b1 : ((rdOf ByteArray.empty t401 x6_1).toList != ([99, 105, 98, 97] : List UInt8)) = true := bne_iff_ne.mpr c9
             obtain rfl := Option.some.inj H
             obtain ⟨Ao11, co11, eo11⟩ := Kd.R_slice HO_10.out
             subst eo11
             have p405 : 0 ≤ (x6_1 : Int) := of_decide_eq_true (by assumption)
             have q405 : x6_1 < (t401.length : Int) := of_decide_eq_true (by assumption)
             obtain ⟨ad405, e405, hx405_0⟩ := Kd.at_string (Kd.R_reads' HO_10.out).2.2 x6_1 p405 q405
             cases e405
             replace p405 := eq_true p405
             replace q405 := eq_true q405
             go_wp2
             go_ret
             exact ⟨by (rfl), by (with_reducible exact HB.out)⟩
       · rw [if_neg c6] at H
         exact absurd H (by simp)
     · rw [if_neg c5] at H
       have c5b0 : decide (x6_1 < (t401.length : Int)) = false := decide_eq_false c5
       clear c5
       obtain rfl := Option.some.inj H
       obtain ⟨Ao12, co12, eo12⟩ := Kd.R_slice HO_10.out
       subst eo12
       go_wp2
       go_ret
       exact ⟨by (rfl), by (with_reducible exact HB.out)⟩
 · rw [if_neg c3] at H
   have c3b0 : (t402 == 0) = false := beq_eq_false_iff_ne.mpr c3
   have c3b1 : (t402 != 0) = true := bne_iff_ne.mpr c3
   obtain rfl := Option.some.inj H
   go_enter Tryz.func92, Tryz.ntmps92
   go_wp2_with (first | ((with_reducible refine gate_callee (f := 43) rfl ?_); refine goesL_ (some 9) rfl rfl Tryz.func43 (by kernel_rfl) rfl #[.string a0] rfl (by ((try simp only [List.map_toArray, List.map_cons, List.map_nil]); (rfl))) ?_; (with_reducible refine (wicketref03_Scopes.calls k a0 t401 t402 _ A2.out).mono ?_); rintro e w13 ⟨v403, rfl, ho0, hb⟩; refine ⟨_, rfl, ?_⟩; have HO404 := Aside0.mk (Kd.R_lower ho0 (below_size HB.out)); replace HB := Aside0.mk (below_step HB.out hb); clear hb ho0))
   go_ret
   exact ⟨by (rfl), by (with_reducible exact HB.out)⟩
end Go.Proofs.YtmimipgmhgalaaaGreatDoor.PAll
end
section
namespace Go.Proofs.YtmimipgmhgalaaaGreatDoor.Pure
open Go.RowKit Go.Proofs.YtmimipgmhgalaaaGreatDoorW.PrintWords Go.Proofs.YtmimipgmhgalaaaGreatDoor.Plain Go.Proofs.YtmimipgmhgalaaaGreatDoor.Spec Go.Proofs.YtmimipgmhgalaaaGreatDoor.PAll
set_option linter.unusedSimpArgs false
set_option linter.unusedVariables false
theorem extract_data (s : ByteArray) (a b : Nat) (h : b ≤ s.size) : (s.extract a b).data.toList = (s.data.toList.drop a).take (b - a) := by
  rw [ByteArray.data_extract, Array.toList_extract]
def mk61 (p : ByteArray × ByteArray) : S121 := ⟨p.1, p.2⟩
def resP (r : (ByteArray × ByteArray) × Int × Int) : ByteArray × ByteArray × Int × Int := (r.1.1, r.1.2, r.2.1, r.2.2)
def res61 (r : List (ByteArray × ByteArray) × Int × Int) : List S121 × Int × Int := (r.1.map mk61, r.2.1, r.2.2)
theorem refpair_end (s : ByteArray) (hs : s.size ≤ 16384) (a b j : Nat) (hb : b ≤ s.size) (haj : a + j ≤ b) (h61 : 61 ∉ ((s.data.toList.drop a).take (b - a)).take j) (hj : a + j = b ∨ (∃ h : a + j < s.size, s[a + j] = 61)) :
    Ev (fun k => wicketref03_pair.j1 k s (a : Int) (b : Int) ((a + j : Nat) : Int)) (resP (pairP a ((s.data.toList.drop a).take (b - a)))) := by
  have hx1 := extract_data s a (a + j) (by omega)
  have e1 : a + j - a = j := by omega
  have hname : (s.extract a (a + j)).data.toList = ((s.data.toList.drop a).take (b - a)).take j := by
    rw [hx1, e1, List.take_take, Nat.min_eq_left (by omega)]
  have hzn : (s.extract a (a + j)).size ≤ 140737488351232 := by rw [ByteArray.size_extract]; omega
  have hun := refun_ev (s.extract a (a + j)) hzn
  rw [hname] at hun
  have hpl := place_of (((s.data.toList.drop a).take (b - a)).take j)
  have hll : (((s.data.toList.drop a).take (b - a)).take j).length = j := by
    rw [List.length_take, List.length_take, List.length_drop, data_len]; omega
  by_cases hend : a + j = b
  · have htk : ((s.data.toList.drop a).take (b - a)).take j = (s.data.toList.drop a).take (b - a) := List.take_of_length_le (by rw [List.length_take]; omega)
    rw [htk] at hun h61 hpl hll
    unfold pairP
    rw [cutL_miss 61 _ h61]
    generalize (s.data.toList.drop a).take (b - a) = p at *
    refine Ev.step (f := fun k => (wicketref03_Unescape.f k (s.extract a (a + j))).bind fun bt166 => (if bt166.2.1 = 0 then (some (bt166.1, (⟨#[]⟩ : ByteArray), 0, 0)) else (some ((⟨#[]⟩ : ByteArray), (⟨#[]⟩ : ByteArray), bt166.2.1, wrap64 ((a : Int) + bt166.2.2))))) (fun k => ?_) ?_
    · simp only [wicketref03_pair.j1]
      simp (disch := omega) only [↓if_pos, ↓if_neg, Int.toNat_natCast]
    · refine Ev.bind hun ?_
      by_cases h0 : (unescL p 0 []).2.1 = 0
      · exact Ev.pos h0 (Ev.eq (Ev.now _) (by rw [if_pos h0]; rfl))
      · refine Ev.neg h0 (Ev.eq (Ev.now _) ?_)
        rw [if_neg h0]
        show (_, _, _, wrap64 ((a : Int) + (unescL p 0 []).2.2)) = _
        rw [w64 (by omega) (by omega)]
        rfl
  · obtain ⟨hlt, h61b⟩ := hj.resolve_left hend
    have hcut : (s.data.toList.drop a).take (b - a) = ((s.data.toList.drop a).take (b - a)).take j ++ 61 :: (s.data.toList.drop (a + j + 1)).take (b - (a + j + 1)) := by
      conv => lhs; rw [← List.take_append_drop j ((s.data.toList.drop a).take (b - a))]
      congr 1
      rw [List.drop_take, List.drop_drop, drop_at s (a + j) hlt, h61b, show b - a - j = (b - (a + j + 1)) + 1 by omega, List.take_succ_cons]
    have hx2 := extract_data s (a + j + 1) b hb
    have hzv : (s.extract (a + j + 1) b).size ≤ 140737488351232 := by rw [ByteArray.size_extract]; omega
    have huv := refun_ev (s.extract (a + j + 1) b) hzv
    rw [hx2] at huv
    have hpv := place_of ((s.data.toList.drop (a + j + 1)).take (b - (a + j + 1)))
    have hlv : ((s.data.toList.drop (a + j + 1)).take (b - (a + j + 1))).length = b - (a + j + 1) := by
      rw [List.length_take, List.length_drop, data_len]; omega
    have hP := cutL_hit 61 ((s.data.toList.drop (a + j + 1)).take (b - (a + j + 1))) _ h61
    rw [← hcut] at hP
    unfold pairP
    rw [hP]
    generalize ((s.data.toList.drop a).take (b - a)).take j = n at *
    generalize (s.data.toList.drop (a + j + 1)).take (b - (a + j + 1)) = v at *
    refine Ev.step (f := fun k => (wicketref03_Unescape.f k (s.extract a (a + j))).bind fun bt166 => (if bt166.2.1 = 0 then ((wicketref03_Unescape.f k (s.extract (a + j + 1) b)).bind fun bt169 => (if bt169.2.1 = 0 then (some (bt166.1, bt169.1, 0, 0)) else (some ((⟨#[]⟩ : ByteArray), (⟨#[]⟩ : ByteArray), bt169.2.1, wrap64 (((a + j : Nat) : Int) + 1 + bt169.2.2))))) else (some ((⟨#[]⟩ : ByteArray), (⟨#[]⟩ : ByteArray), bt166.2.1, wrap64 ((a : Int) + bt166.2.2))))) (fun k => ?_) ?_
    · simp only [wicketref03_pair.j1]
      simp (disch := omega) only [↓if_pos, ↓if_neg, Int.toNat_natCast, w64]
      rfl
    · refine Ev.bind hun ?_
      by_cases h0 : (unescL n 0 []).2.1 = 0
      · refine Ev.pos h0 (Ev.bind huv ?_)
        rw [if_pos h0]
        by_cases h1 : (unescL v 0 []).2.1 = 0
        · exact Ev.pos h1 (Ev.eq (Ev.now _) (by rw [if_pos h1]; rfl))
        · refine Ev.neg h1 (Ev.eq (Ev.now _) ?_)
          rw [if_neg h1]
          show (_, _, _, wrap64 (((a + j : Nat) : Int) + 1 + (unescL v 0 []).2.2)) = _
          rw [w64 (by omega) (by omega)]
          unfold resP
          simp only [hll]
          congr 3
      · refine Ev.neg h0 (Ev.eq (Ev.now _) ?_)
        rw [if_neg h0]
        show (_, _, _, wrap64 ((a : Int) + (unescL n 0 []).2.2)) = _
        rw [w64 (by omega) (by omega)]
        rfl
theorem refpair_loop (s : ByteArray) (hs : s.size ≤ 16384) (a b : Nat) (hb : b ≤ s.size) : ∀ (m j : Nat), a + j + m = b → 61 ∉ ((s.data.toList.drop a).take (b - a)).take j →
    Ev (fun k => wicketref03_pair.l0 k s (a : Int) (b : Int) ((a + j : Nat) : Int)) (resP (pairP a ((s.data.toList.drop a).take (b - a)))) := by
  intro m
  induction m with
  | zero =>
    intro j hj h61
    refine Ev.step (fun k => ?_) (refpair_end s hs a b j hb (by omega) h61 (.inl (by omega)))
    simp only [wicketref03_pair.l0]
    rw [if_neg (by omega)]
  | succ m ih =>
    intro j hj h61
    have hlt : a + j < s.size := by omega
    have hbt := bt_get s (a + j) hlt
    by_cases he : s[a + j] = 61
    · refine Ev.step (fun k => ?_) (refpair_end s hs a b j hb (by omega) h61 (.inr ⟨hlt, he⟩))
      have he' : (s[a + j].toNat : Int) = 61 := by rw [he]; rfl
      simp only [wicketref03_pair.l0]
      rw [if_pos (by omega), if_pos (by omega), if_pos (by omega), hbt, if_pos he']
    · refine Ev.step (fun k => ?_) (ih (j + 1) (by omega) ?_)
      · have he' : ¬ (s[a + j].toNat : Int) = 61 := fun e => he (u8_lit _ 61 (by omega))
        simp only [wicketref03_pair.l0]
        rw [if_pos (by omega), if_pos (by omega), if_pos (by omega), hbt, if_neg he', w64 (by omega) (by omega)]
        rfl
      · have hlen : j < ((s.data.toList.drop a).take (b - a)).length := by rw [List.length_take, List.length_drop, data_len]; omega
        rw [List.take_succ_eq_append_getElem hlen, List.mem_append, not_or]
        refine ⟨h61, ?_⟩
        rw [List.mem_singleton, List.getElem_take, List.getElem_drop]
        exact fun e => he e.symm
theorem refpair_ev (s : ByteArray) (hs : s.size ≤ 16384) (a b : Nat) (hb : b ≤ s.size) (hab : a ≤ b) :
    Ev (fun k => wicketref03_pair.f k s (a : Int) (b : Int)) (resP (pairP a ((s.data.toList.drop a).take (b - a)))) := by
  unfold wicketref03_pair.f
  exact refpair_loop s hs a b hb (b - a) 0 (by omega) (by simp)
def restAt (l : List UInt8) (j : Nat) : List (List UInt8) := if j ≤ l.length then splitL 38 (l.drop j) else []
theorem refparse_loop (s : ByteArray) (hs : s.size ≤ 16384) : ∀ (m a i : Nat) (acc : List (ByteArray × ByteArray)), i + m = s.size + 1 → a ≤ i → (m = 0 → a = i) → acc.length ≤ 64 → 38 ∉ (s.data.toList.drop a).take (i - a) →
    Ev (fun k => wicketref03_Parse.l0 k s (acc.map mk61) (a : Int) (i : Int)) (res61 (parseL (restAt s.data.toList a) a acc)) := by
  intro m
  induction m with
  | zero =>
    intro a i acc hi hai h0 ha _
    have := h0 rfl
    subst this
    refine Ev.step (f := fun _ => some (acc.map mk61, 0, 0)) (fun k => ?_) (Ev.eq (Ev.now _) ?_)
    · simp only [wicketref03_Parse.l0]; rw [if_neg (by omega)]
    · unfold restAt; rw [if_neg (by rw [data_len]; omega)]; rfl
  | succ m ih =>
    intro a i acc hi hai _ ha h38
    have hal : (acc.map mk61).length = acc.length := List.length_map ..
    by_cases hgo : ∃ h : i < s.size, s[i] ≠ 38
    · obtain ⟨hlt, hne⟩ := hgo
      have hbt := bt_get s i hlt
      have hne' : ((s[i].toNat : Int) != 38) = true := by
        rw [bne_iff_ne]; exact fun e => hne (u8_lit _ 38 (by omega))
      refine Ev.step (f := fun k => wicketref03_Parse.j1 k s (acc.map mk61) (a : Int) (i : Int) true) (fun k => ?_) ?_
      · simp only [wicketref03_Parse.l0]
        rw [if_pos (by omega), if_pos (by omega), if_pos (by omega), hbt, hne']
      · refine Ev.step (fun k => ?_) (ih a (i + 1) acc (by omega) (by omega) (by omega) ha ?_)
        · simp only [wicketref03_Parse.j1, if_true]
          rw [w64 (by omega) (by omega)]
          rfl
        · rw [show i + 1 - a = (i - a) + 1 by omega]
          have hlen : i - a < (s.data.toList.drop a).length := by rw [List.length_drop, data_len]; omega
          rw [List.take_succ_eq_append_getElem hlen, List.mem_append, not_or]
          refine ⟨h38, ?_⟩
          rw [List.mem_singleton, List.getElem_drop]
          intro e
          refine hne ?_
          rw [e]
          show s.data.toList[i] = _
          congr 1
          omega
    · have hrest : restAt s.data.toList a = (s.data.toList.drop a).take (i - a) :: restAt s.data.toList (i + 1) := by
        unfold restAt
        rw [data_len, if_pos (by omega)]
        by_cases hlt : i < s.size
        · have h38i : s[i] = 38 := Classical.byContradiction fun e => hgo ⟨hlt, e⟩
          rw [if_pos (by omega)]
          have hcut : s.data.toList.drop a = (s.data.toList.drop a).take (i - a) ++ 38 :: s.data.toList.drop (i + 1) := by
            conv => lhs; rw [← List.take_append_drop (i - a) (s.data.toList.drop a)]
            congr 1
            rw [List.drop_drop, show a + (i - a) = i by omega, drop_at s i hlt, h38i]
          conv => lhs; rw [hcut]
          rw [splitL_hit 38 _ _ h38]
        · rw [if_neg (by omega)]
          have hz : (s.data.toList.drop a).take (i - a) = s.data.toList.drop a := List.take_of_length_le (by rw [List.length_drop, data_len]; omega)
          rw [hz] at h38 ⊢
          exact splitL_whole 38 _ h38
      have hplen : ((s.data.toList.drop a).take (i - a)).length = i - a := by rw [List.length_take, List.length_drop, data_len]; omega
      rw [hrest, parseL_cons]
      have hl0 : ∀ r, Ev (fun k => wicketref03_Parse.j1 k s (acc.map mk61) (a : Int) (i : Int) false) r → Ev (fun k => wicketref03_Parse.l0 k s (acc.map mk61) (a : Int) (i : Int)) r := by
        refine fun r h => Ev.step (fun k => ?_) h
        simp only [wicketref03_Parse.l0]
        rw [if_pos (by omega)]
        by_cases hlt : i < s.size
        · have h38i : s[i] = 38 := Classical.byContradiction fun e => hgo ⟨hlt, e⟩
          have hbt := bt_get s i hlt
          rw [if_pos (by omega), if_pos (by omega), hbt, h38i]
          rfl
        · rw [if_neg (by omega)]
      refine hl0 _ ?_
      have hpair := refpair_ev s hs a i (by omega) hai
      have hnext : ∀ bcc : List (ByteArray × ByteArray), bcc.length ≤ 64 → Ev (fun k => wicketref03_Parse.l0 k s (bcc.map mk61) ((i + 1 : Nat) : Int) ((i + 1 : Nat) : Int)) (res61 (parseL (restAt s.data.toList (i + 1)) (i + 1) bcc)) := fun bcc hb => ih (i + 1) (i + 1) bcc (by omega) (by omega) (fun _ => rfl) hb (by simp)
      have hw : wrap64 ((i : Int) + 1) = ((i + 1 : Nat) : Int) := by rw [w64 (by omega) (by omega)]; rfl
      generalize hp : (s.data.toList.drop a).take (i - a) = p at *
      by_cases h1 : p = []
      · rw [if_pos h1]
        rw [h1] at hplen
        simp only [List.length_nil] at hplen
        have hia : i = a := by omega
        refine Ev.step (fun k => ?_) (Ev.eq (hnext acc ha) (by rw [hia]))
        simp only [wicketref03_Parse.j1]
        rw [if_neg (by simp), if_neg (by omega), hw]
      · rw [if_neg h1]
        have hpos : 0 < p.length := List.length_pos_iff.2 h1
        by_cases h2 : acc.length = 64
        · rw [if_pos h2]
          refine Ev.step (f := fun _ => some ([], 32, (a : Int))) (fun k => ?_) (Ev.eq (Ev.now _) rfl)
          simp only [wicketref03_Parse.j1]
          rw [if_neg (by simp), if_pos (by omega), if_pos (by omega)]
        · rw [if_neg h2]
          refine Ev.step (f := fun k => (wicketref03_pair.f k s (a : Int) (i : Int)).bind fun bt172 => (if bt172.2.2.1 = 0 then (if (acc.map mk61).length < 4398046511104 then (wicketref03_Parse.l0 k s ((acc.map mk61) ++ [(⟨bt172.1, bt172.2.1⟩ : S121)]) ((i + 1 : Nat) : Int) ((i + 1 : Nat) : Int)) else (none)) else (some (([] : List (S121)), bt172.2.2.1, bt172.2.2.2)))) (fun k => ?_) ?_
          · simp only [wicketref03_Parse.j1]
            rw [if_neg (by simp), if_pos (by omega), if_neg (by omega), hw]
          · refine Ev.bind hpair ?_
            by_cases h3 : (pairP a p).2.1 = 0
            · rw [if_pos h3]
              refine Ev.pos h3 (Ev.pos (by omega) ?_)
              have := hnext (acc ++ [(pairP a p).1]) (by rw [List.length_append, List.length_singleton]; omega)
              rw [show a + p.length + 1 = i + 1 by omega]
              rw [List.map_append] at this
              exact this
            · rw [if_neg h3]
              exact Ev.neg h3 (Ev.eq (Ev.now _) rfl)
theorem refparse_ev (s : ByteArray) : Ev (fun k => wicketref03_Parse.f k s) (res61 (parse s.data.toList)) := by
  unfold wicketref03_Parse.f parse
  rw [data_len]
  by_cases h : s.size > 16384
  · rw [if_pos h]
    exact Ev.pos (by omega) (Ev.now _)
  · rw [if_neg h]
    refine Ev.neg (by omega) ?_
    exact refparse_loop s (by omega) (s.size + 1) 0 0 [] (by omega) (by omega) (by omega) (by simp) (by simp)
end Go.Proofs.YtmimipgmhgalaaaGreatDoor.Pure
end
section
namespace Go.Proofs.YtmimipgmhgalaaaGreatDoor.PAll
open Go.RowKit Go.Proofs.YtmimipgmhgalaaaGreatDoorW.PrintWords Go.Proofs.YtmimipgmhgalaaaGreatDoorW.PrintLast Go.Proofs.YtmimipgmhgalaaaGreatDoorW.PrintMore
attribute [local go_sem] max2_int min2_int max_two min_two max_three min_three max_four min_four
set_option linter.unusedVariables false
set_option linter.unusedSimpArgs false
def wicketref11_texts.l0 : Nat → List ByteArray → List ByteArray → Int → Option (Bool)
 | 0, _, _, _ => none
 | k + 1, x0, x1, x5 => if x5 < (x0.length : Int) then (if 0 ≤ x5 then (if x5 < (x1.length : Int) then (if (rdOf ByteArray.empty x0 x5).toList = (rdOf ByteArray.empty x1 x5).toList then (wicketref11_texts.l0 k x0 x1 (wrap64 (x5 + 1))) else (some false)) else (none)) else (none)) else (some true)
def wicketref11_texts.f (k : Nat) (l0 : List ByteArray) (l1 : List ByteArray) : Option (Bool) := if (l0.length : Int) = (l1.length : Int) then (wicketref11_texts.l0 k l0 l1 0) else (some false)
set_option maxHeartbeats 8000000 in
set_option maxRecDepth 100000 in
theorem wicketref11_texts.calls (k : Nat) (A0 : Option Addr) (c0 : Nat) (l0 : List ByteArray) (A1 : Option Addr) (c1 : Nat) (l1 : List ByteArray) (r : Bool) (w : World) (hr0 : Kd.C Kd.string w A0 l0.length l0) (hc0 : l0.length ≤ c0) (hr1 : Kd.C Kd.string w A1 l1.length l1) (hc1 : l1.length ≤ c1) (h : wicketref11_texts.f k l0 l1 = some r) :
 Calls Tryz.prog 57 #[.slice A0 l0.length c0, .slice A1 l1.length c1] w fun e w' => e = .returned (.bool r) ∧ Drawn0 w w' := by
 have HR0 := Aside0.mk hr0
 have HC0 := Aside0.mk hc0
 clear hr0 hc0
 have HR1 := Aside0.mk hr1
 have HC1 := Aside0.mk hc1
 clear hr1 hc1
 have H : (if (l0.length : Int) = (l1.length : Int) then (wicketref11_texts.l0 k l0 l1 0) else (some false)) = some r := h
 clear h
 by_cases c3 : (l0.length : Int) = (l1.length : Int)
 · rw [if_pos c3] at H
   have c3b0 : ((l0.length : Int) == (l1.length : Int)) = true := beq_iff_eq.mpr c3
   have c3b1 : ((l0.length : Int) != (l1.length : Int)) = false := bne_eq_false_iff_eq.mpr c3
   have c3b2 : (l0.length == l1.length) = true := by (simp at c3 ⊢; omega)
   clear c3
   have H' := Aside0.mk H
   clear H
   go_enter Tryz.func57, Tryz.ntmps57
   go_wp2
   repeat (go_quiet (fail); try go_wp2)
   go_loopg [5] k (fun kq v5 w' => ∃ (x5_1 : Int), v5 = .int .i64 x5_1 ∧ Aside0 (wicketref11_texts.l0 kq l0 l1 x5_1 = some r) ∧ Aside0 (kq ≤ k) ∧ Drawn0 w w')
   case atStart => exact ⟨(0), rfl, H', ⟨Nat.le_refl _⟩, by repeat (exact Drawn0.refl _)⟩
   case round =>
    clear H' c3b0 c3b1 c3b2
    obtain ⟨x5_1, rfl, HA, HK1, ⟨m1, rfl⟩⟩ := hrel
    cases gk with
    | zero => exact absurd HA.out (by simp [wicketref11_texts.l0])
    | succ k1 =>
     have H := HA.out
     clear HA
     simp only [wicketref11_texts.l0] at H
     by_cases c4 : x5_1 < (l0.length : Int)
     · rw [if_pos c4] at H
       have c4b0 : decide (x5_1 < (l0.length : Int)) = true := decide_eq_true c4
       clear c4
       by_cases c5 : 0 ≤ x5_1
       · rw [if_pos c5] at H
         have c5b0 : decide (0 ≤ x5_1) = true := decide_eq_true c5
         clear c5
         by_cases c6 : x5_1 < (l1.length : Int)
         · rw [if_pos c6] at H
           have c6b0 : decide (x5_1 < (l1.length : Int)) = true := decide_eq_true c6
           clear c6
           by_cases c7 : (rdOf ByteArray.empty l0 x5_1).toList = (rdOf ByteArray.empty l1 x5_1).toList
           · rw [if_pos c7] at H
             have c7b0 : ((rdOf ByteArray.empty l0 x5_1).toList == (rdOf ByteArray.empty l1 x5_1).toList) = true := beq_iff_eq.mpr c7
             have c7b1 : ((rdOf ByteArray.empty l0 x5_1).toList != (rdOf ByteArray.empty l1 x5_1).toList) = false := bne_eq_false_iff_eq.mpr c7
             clear c7
             have H' := Aside0.mk H
             clear H
             have p342 : 0 ≤ (x5_1 : Int) := of_decide_eq_true (by assumption)
             have q342 : x5_1 < (l0.length : Int) := of_decide_eq_true (by assumption)
             obtain ⟨ad342, e342, hx342_0⟩ := Kd.at_string HR0.out x5_1 p342 q342
             cases e342
             replace p342 := eq_true p342
             replace q342 := eq_true q342
             have p343 : 0 ≤ (x5_1 : Int) := of_decide_eq_true (by assumption)
             have q343 : x5_1 < (l1.length : Int) := of_decide_eq_true (by assumption)
             obtain ⟨ad343, e343, hx343_0⟩ := Kd.at_string HR1.out x5_1 p343 q343
             cases e343
             replace p343 := eq_true p343
             replace q343 := eq_true q343
             go_wp2
             repeat (go_quiet (fail); try go_wp2)
             go_roundg k1
             case measure => have := HK1.out; omega
             case rel => exact ⟨(wrap64 (x5_1 + 1)), rfl, H', ⟨by have := HK1.out; omega⟩, by repeat (first | exact Drawn0.refl _ | apply Drawn0.step)⟩
           · rw [if_neg c7] at H
             have c7b0 : ((rdOf ByteArray.empty l0 x5_1).toList == (rdOf ByteArray.empty l1 x5_1).toList) = false := beq_eq_false_iff_ne.mpr c7
             have c7b1 : ((rdOf ByteArray.empty l0 x5_1).toList != (rdOf ByteArray.empty l1 x5_1).toList) = true := bne_iff_ne.mpr c7
             obtain rfl := Option.some.inj H
             have p342 : 0 ≤ (x5_1 : Int) := of_decide_eq_true (by assumption)
             have q342 : x5_1 < (l0.length : Int) := of_decide_eq_true (by assumption)
             obtain ⟨ad342, e342, hx342_0⟩ := Kd.at_string HR0.out x5_1 p342 q342
             cases e342
             replace p342 := eq_true p342
             replace q342 := eq_true q342
             have p343 : 0 ≤ (x5_1 : Int) := of_decide_eq_true (by assumption)
             have q343 : x5_1 < (l1.length : Int) := of_decide_eq_true (by assumption)
             obtain ⟨ad343, e343, hx343_0⟩ := Kd.at_string HR1.out x5_1 p343 q343
             cases e343
             replace p343 := eq_true p343
             replace q343 := eq_true q343
             go_wp2
             repeat (go_quiet (fail); try go_wp2)
             go_ret
             exact ⟨by (rfl), by repeat (first | exact Drawn0.refl _ | apply Drawn0.step)⟩
         · rw [if_neg c6] at H
           exact absurd H (by simp)
       · rw [if_neg c5] at H
         exact absurd H (by simp)
     · rw [if_neg c4] at H
       have c4b0 : decide (x5_1 < (l0.length : Int)) = false := decide_eq_false c4
       clear c4
       obtain rfl := Option.some.inj H
       go_wp2
       repeat (go_quiet (fail); try go_wp2)
       go_ret
       exact ⟨by (rfl), by repeat (first | exact Drawn0.refl _ | apply Drawn0.step)⟩
 · rw [if_neg c3] at H
   have c3b0 : ((l0.length : Int) == (l1.length : Int)) = false := beq_eq_false_iff_ne.mpr c3
   have c3b1 : ((l0.length : Int) != (l1.length : Int)) = true := bne_iff_ne.mpr c3
   have c3b2 : (l0.length == l1.length) = false := by (simp at c3 ⊢; omega)
   obtain rfl := Option.some.inj H
   go_enter Tryz.func57, Tryz.ntmps57
   go_wp2
   repeat (go_quiet (fail); try go_wp2)
   go_ret
   exact ⟨by (rfl), by repeat (exact Drawn0.refl _)⟩
def wicketref11_bytes.l0 : Nat → ByteArray → Int → Int → Int → Int → Int → Option (Bool)
 | 0, _, _, _, _, _, _ => none
 | k + 1, x0, x1, x2, x3, x4, x11 => if x11 < (x0.size : Int) then (if 0 ≤ x11 then (if (bt x0 x11) < x1 then (some false) else (if (bt x0 x11) > x2 then (some false) else (wicketref11_bytes.l0 k x0 x1 x2 x3 x4 (wrap64 (x11 + 1))))) else (none)) else (if (x0.size : Int) ≥ x3 then (some (decide ((x0.size : Int) ≤ x4))) else (some false))
def wicketref11_bytes.f (k : Nat) (a0 : ByteArray) (a1 : Int) (a2 : Int) (a3 : Int) (a4 : Int) : Option (Bool) := wicketref11_bytes.l0 k a0 a1 a2 a3 a4 0
set_option maxHeartbeats 8000000 in
set_option maxRecDepth 100000 in
theorem wicketref11_bytes.calls (k : Nat) (a0 : ByteArray) (a1 : Int) (a2 : Int) (a3 : Int) (a4 : Int) (r : Bool) (w : World) (h : wicketref11_bytes.f k a0 a1 a2 a3 a4 = some r) :
 Calls Tryz.prog 58 #[.string a0, .int .u8 a1, .int .u8 a2, .int .i64 a3, .int .i64 a4] w fun e w' => e = .returned (.bool r) ∧ Drawn0 w w' := by
 have H : (wicketref11_bytes.l0 k a0 a1 a2 a3 a4 0) = some r := h
 clear h
 have H' := Aside0.mk H
 clear H
 go_enter Tryz.func58, Tryz.ntmps58
 go_wp2
 go_loopg [11] k (fun kq v11 w' => ∃ (x11_1 : Int), v11 = .int .i64 x11_1 ∧ Aside0 (wicketref11_bytes.l0 kq a0 a1 a2 a3 a4 x11_1 = some r) ∧ Aside0 (kq ≤ k) ∧ Drawn0 w w')
 case atStart => exact ⟨(0), rfl, H', ⟨Nat.le_refl _⟩, by repeat (exact Drawn0.refl _)⟩
 case round =>
  clear H'
  obtain ⟨x11_1, rfl, HA, HK1, ⟨m1, rfl⟩⟩ := hrel
  cases gk with
  | zero => exact absurd HA.out (by simp [wicketref11_bytes.l0])
  | succ k1 =>
   have H := HA.out
   clear HA
   simp only [wicketref11_bytes.l0] at H
   by_cases c6 : x11_1 < (a0.size : Int)
   · rw [if_pos c6] at H
     have c6b0 : decide (x11_1 < (a0.size : Int)) = true := decide_eq_true c6
     clear c6
     by_cases c7 : 0 ≤ x11_1
     · rw [if_pos c7] at H
       have c7b0 : decide (0 ≤ x11_1) = true := decide_eq_true c7
       clear c7
       by_cases c9 : (bt a0 x11_1) < a1
       · rw [if_pos c9] at H
         have c9b0 : decide ((bt a0 x11_1) < a1) = true := decide_eq_true c9
         clear c9
         obtain rfl := Option.some.inj H
         have p8 : 0 ≤ (x11_1 : Int) := of_decide_eq_true (by assumption)
         have q8 : x11_1 < (a0.size : Int) := of_decide_eq_true (by assumption)
         have hx8 := bt_at a0 x11_1
         replace p8 := eq_true p8
         replace q8 := eq_true q8
         go_wp2
         go_ret
         exact ⟨by (rfl), by repeat (first | exact Drawn0.refl _ | apply Drawn0.step)⟩
       · rw [if_neg c9] at H
         have c9b0 : decide ((bt a0 x11_1) < a1) = false := decide_eq_false c9
         clear c9
         by_cases c11 : (bt a0 x11_1) > a2
         · rw [if_pos c11] at H
           have c11b0 : decide (a2 < (bt a0 x11_1)) = true := decide_eq_true c11
           clear c11
           obtain rfl := Option.some.inj H
           have p8 : 0 ≤ (x11_1 : Int) := of_decide_eq_true (by assumption)
           have q8 : x11_1 < (a0.size : Int) := of_decide_eq_true (by assumption)
           have hx8 := bt_at a0 x11_1
           replace p8 := eq_true p8
           replace q8 := eq_true q8
           have p10 : 0 ≤ (x11_1 : Int) := of_decide_eq_true (by assumption)
           have q10 : x11_1 < (a0.size : Int) := of_decide_eq_true (by assumption)
           have hx10 := bt_at a0 x11_1
           replace p10 := eq_true p10
           replace q10 := eq_true q10
           go_wp2
           go_ret
           exact ⟨by (rfl), by repeat (first | exact Drawn0.refl _ | apply Drawn0.step)⟩
         · rw [if_neg c11] at H
           have c11b0 : decide (a2 < (bt a0 x11_1)) = false := decide_eq_false c11
           clear c11
           have H' := Aside0.mk H
           clear H
           have p8 : 0 ≤ (x11_1 : Int) := of_decide_eq_true (by assumption)
           have q8 : x11_1 < (a0.size : Int) := of_decide_eq_true (by assumption)
           have hx8 := bt_at a0 x11_1
           replace p8 := eq_true p8
           replace q8 := eq_true q8
           have p10 : 0 ≤ (x11_1 : Int) := of_decide_eq_true (by assumption)
           have q10 : x11_1 < (a0.size : Int) := of_decide_eq_true (by assumption)
           have hx10 := bt_at a0 x11_1
           replace p10 := eq_true p10
           replace q10 := eq_true q10
           go_wp2
           go_roundg k1
           case measure => have := HK1.out; omega
           case rel => exact ⟨(wrap64 (x11_1 + 1)), rfl, H', ⟨by have := HK1.out; omega⟩, by repeat (first | exact Drawn0.refl _ | apply Drawn0.step)⟩
     · rw [if_neg c7] at H
       exact absurd H (by simp)
   · rw [if_neg c6] at H
     have c6b0 : decide (x11_1 < (a0.size : Int)) = false := decide_eq_false c6
     clear c6
     by_cases c12 : (a0.size : Int) ≥ a3
     · rw [if_pos c12] at H
       have c12b0 : decide (a3 ≤ (a0.size : Int)) = true := decide_eq_true c12
       clear c12
       obtain rfl := Option.some.inj H
       go_wp2
       go_ret
       exact ⟨by (rfl), by repeat (first | exact Drawn0.refl _ | apply Drawn0.step)⟩
     · rw [if_neg c12] at H
       have c12b0 : decide (a3 ≤ (a0.size : Int)) = false := decide_eq_false c12
       clear c12
       obtain rfl := Option.some.inj H
       go_wp2
       go_ret
       exact ⟨by (rfl), by repeat (first | exact Drawn0.refl _ | apply Drawn0.step)⟩
def wicketref11_url.f (k : Nat) (a0_0 : ByteArray) (a0_1 : ByteArray) (a0_2 : Int) (a0_3 : Bool) (a0_4 : ByteArray) (l0_5 : List ByteArray) : Option (Bool) := if a0_3 = true then ((wicketref11_bytes.f k a0_4 33 126 9 256).bind fun t345 => (if t345 = true then (if 0 ≤ 8 then (if 8 ≤ (a0_4.size : Int) then (some ((a0_4.extract 0 8).toList == ([104, 116, 116, 112, 115, 58, 47, 47] : List UInt8))) else (none)) else (none)) else (some false))) else (some (a0_4.toList == ([] : List UInt8)))
set_option maxHeartbeats 8000000 in
set_option maxRecDepth 100000 in
theorem wicketref11_url.calls (k : Nat) (a0_0 : ByteArray) (a0_1 : ByteArray) (a0_2 : Int) (a0_3 : Bool) (a0_4 : ByteArray) (A0_5 : Option Addr) (c0_5 : Nat) (l0_5 : List ByteArray) (r : Bool) (w : World) (hr0_5 : Kd.C Kd.string w A0_5 l0_5.length l0_5) (hc0_5 : l0_5.length ≤ c0_5) (h : wicketref11_url.f k a0_0 a0_1 a0_2 a0_3 a0_4 l0_5 = some r) :
 Calls Tryz.prog 59 #[.agg #[.string a0_0, .string a0_1, .int .i64 a0_2, .bool a0_3, .string a0_4, .slice A0_5 l0_5.length c0_5]] w fun e w' => e = .returned (.bool r) ∧ Below w.heap.size w w' := by
 have hu43 := Tryz.underlying43
 have HR0_5 := Aside0.mk hr0_5
 have HC0_5 := Aside0.mk hc0_5
 clear hr0_5 hc0_5
 have HB := Aside0.mk (Below.refl w.heap.size w)
 have H : (if a0_3 = true then ((wicketref11_bytes.f k a0_4 33 126 9 256).bind fun t345 => (if t345 = true then (if 0 ≤ 8 then (if 8 ≤ (a0_4.size : Int) then (some ((a0_4.extract 0 8).toList == ([104, 116, 116, 112, 115, 58, 47, 47] : List UInt8))) else (none)) else (none)) else (some false))) else (some (a0_4.toList == ([] : List UInt8)))) = some r := h
 clear h
 by_cases c2 : a0_3 = true
 · subst c2
   have H1 : ((wicketref11_bytes.f k a0_4 33 126 9 256).bind fun t345 => (if t345 = true then (if 0 ≤ 8 then (if 8 ≤ (a0_4.size : Int) then (some ((a0_4.extract 0 8).toList == ([104, 116, 116, 112, 115, 58, 47, 47] : List UInt8))) else (none)) else (none)) else (some false))) = some r := by rw [if_pos rfl] at H; exact H
   clear H
   have H := H1
   clear H1
   replace H := Option.bind_eq_some_iff.mp H
   obtain ⟨t345, A30, H⟩ := H
   replace H : (if t345 = true then (if 0 ≤ 8 then (if 8 ≤ (a0_4.size : Int) then (some ((a0_4.extract 0 8).toList == ([104, 116, 116, 112, 115, 58, 47, 47] : List UInt8))) else (none)) else (none)) else (some false)) = some r := H
   have A3 := Aside0.mk A30
   clear A30
   by_cases c4 : t345 = true
   · subst c4
     have H1 : (if 0 ≤ 8 then (if 8 ≤ (a0_4.size : Int) then (some ((a0_4.extract 0 8).toList == ([104, 116, 116, 112, 115, 58, 47, 47] : List UInt8))) else (none)) else (none)) = some r := by rw [if_pos rfl] at H; exact H
     clear H
     have H := H1
     clear H1
     by_cases c5 : 0 ≤ 8
     · rw [if_pos c5] at H
       have c5b0 := eq_true c5
       have c5b1 : decide (0 ≤ 8) = true := decide_eq_true c5
       clear c5
       by_cases c6 : 8 ≤ (a0_4.size : Int)
       · rw [if_pos c6] at H
         have c6b0 := eq_true c6
         have c6b1 : decide (8 ≤ (a0_4.size : Int)) = true := decide_eq_true c6
         clear c6
         obtain rfl := Option.some.inj H
         go_enter Tryz.func59, Tryz.ntmps59
         go_wp2_with (first | ((with_reducible refine gate_dst (N := 1) rfl ?_); refine box_event ?hg (N := 1) ?hd (cs := #[.string a0_0, .string a0_1, .int .i64 a0_2, .bool true, .string a0_4, .slice A0_5 l0_5.length c0_5]) (t := 43) ?hr ?_; (case hd => rfl); (case hg => rfl); (case hr => (go_simp; done)); intro gb344 hg w7 hbox hb; have BK344 := Aside0.mk hbox; have GW344 := Aside0.mk ((by rw [hg]; exact (below_size HB.out) : w.heap.size ≤ gb344)); have GE344 := Aside0.mk ((by rw [hg]; exact (below_size HB.out) : w.heap.size ≤ gb344)); replace HB := Aside0.mk (below_step HB.out hb); clear hb hbox hg; obtain ⟨hcz8_0, hcz8_1, hcz8_2, hcz8_3, hcz8_4, hcz8_5, hfz8_0, hfz8_1, hfz8_2, hfz8_3, hfz8_4, hfz8_5⟩ := cz6_ BK344.out) | ((with_reducible refine gate_callee (f := 58) rfl ?_); refine goesL_ (some 12) rfl rfl Tryz.func58 (by kernel_rfl) rfl #[.string a0_4, .int .u8 33, .int .u8 126, .int .i64 9, .int .i64 256] rfl (by ((try simp only [List.map_toArray, List.map_cons, List.map_nil]); (rfl))) ?_; (with_reducible refine (wicketref11_bytes.calls k a0_4 33 126 9 256 true _ A3.out).mono ?_); rintro e w' ⟨rfl, ⟨nd, rfl⟩⟩; refine ⟨_, rfl, ?_⟩))
         go_ret
         exact ⟨by (rfl), by (repeat (with_reducible first | exact HB.out | apply pw_below_drewN))⟩
       · rw [if_neg c6] at H
         exact absurd H (by simp)
     · rw [if_neg c5] at H
       exact absurd H (by simp)
   · replace c4 := Bool.eq_false_iff.mpr c4
     subst c4
     have H1 : (some false) = some r := by rw [if_neg (show ¬ (false = true) by decide)] at H; exact H
     clear H
     have H := H1
     clear H1
     obtain rfl := Option.some.inj H
     go_enter Tryz.func59, Tryz.ntmps59
     go_wp2_with (first | ((with_reducible refine gate_dst (N := 1) rfl ?_); refine box_event ?hg (N := 1) ?hd (cs := #[.string a0_0, .string a0_1, .int .i64 a0_2, .bool true, .string a0_4, .slice A0_5 l0_5.length c0_5]) (t := 43) ?hr ?_; (case hd => rfl); (case hg => rfl); (case hr => (go_simp; done)); intro gb344 hg w9 hbox hb; have BK344 := Aside0.mk hbox; have GW344 := Aside0.mk ((by rw [hg]; exact (below_size HB.out) : w.heap.size ≤ gb344)); have GE344 := Aside0.mk ((by rw [hg]; exact (below_size HB.out) : w.heap.size ≤ gb344)); replace HB := Aside0.mk (below_step HB.out hb); clear hb hbox hg; obtain ⟨hcz10_0, hcz10_1, hcz10_2, hcz10_3, hcz10_4, hcz10_5, hfz10_0, hfz10_1, hfz10_2, hfz10_3, hfz10_4, hfz10_5⟩ := cz6_ BK344.out) | ((with_reducible refine gate_callee (f := 58) rfl ?_); refine goesL_ (some 12) rfl rfl Tryz.func58 (by kernel_rfl) rfl #[.string a0_4, .int .u8 33, .int .u8 126, .int .i64 9, .int .i64 256] rfl (by ((try simp only [List.map_toArray, List.map_cons, List.map_nil]); (rfl))) ?_; (with_reducible refine (wicketref11_bytes.calls k a0_4 33 126 9 256 false _ A3.out).mono ?_); rintro e w' ⟨rfl, ⟨nd, rfl⟩⟩; refine ⟨_, rfl, ?_⟩))
     go_ret
     exact ⟨by (rfl), by (repeat (with_reducible first | exact HB.out | apply pw_below_drewN))⟩
 · replace c2 := Bool.eq_false_iff.mpr c2
   subst c2
   have H1 : (some (a0_4.toList == ([] : List UInt8))) = some r := by rw [if_neg (show ¬ (false = true) by decide)] at H; exact H
   clear H
   have H := H1
   clear H1
   obtain rfl := Option.some.inj H
   go_enter Tryz.func59, Tryz.ntmps59
   go_wp2_with (first | ((with_reducible refine gate_dst (N := 1) rfl ?_); refine box_event ?hg (N := 1) ?hd (cs := #[.string a0_0, .string a0_1, .int .i64 a0_2, .bool false, .string a0_4, .slice A0_5 l0_5.length c0_5]) (t := 43) ?hr ?_; (case hd => rfl); (case hg => rfl); (case hr => (go_simp; done)); intro gb344 hg w11 hbox hb; have BK344 := Aside0.mk hbox; have GW344 := Aside0.mk ((by rw [hg]; exact (below_size HB.out) : w.heap.size ≤ gb344)); have GE344 := Aside0.mk ((by rw [hg]; exact (below_size HB.out) : w.heap.size ≤ gb344)); replace HB := Aside0.mk (below_step HB.out hb); clear hb hbox hg; obtain ⟨hcz12_0, hcz12_1, hcz12_2, hcz12_3, hcz12_4, hcz12_5, hfz12_0, hfz12_1, hfz12_2, hfz12_3, hfz12_4, hfz12_5⟩ := cz6_ BK344.out))
   go_ret
   exact ⟨by (rfl), by (with_reducible exact HB.out)⟩
end Go.Proofs.YtmimipgmhgalaaaGreatDoor.PAll
end
