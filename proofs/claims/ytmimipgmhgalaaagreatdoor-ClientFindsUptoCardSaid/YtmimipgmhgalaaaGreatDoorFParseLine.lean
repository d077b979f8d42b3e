/-
  client.parseLine: a line's client, or that it says none: what the call does, walked.
-/
import Derived.Test.YtmimipgmhgalaaaGreatDoorPure11b
import Derived.Deep.RegionWith
import Derived.Outline
namespace Go.Proofs.YtmimipgmhgalaaaGreatDoor.Spec
open Go.Proofs.YtmimipgmhgalaaaGreatDoor.PAll Go.Proofs.YtmimipgmhgalaaaGreatDoor.Pure
def sL (v : ByteArray) : List ByteArray := (scopesL v.data.toList).1.map bs
/-- What a pair of a line does to a client; none: there is no such name. -/
def takeL (n v : ByteArray) (c : ClT) : Option (ClT × Bool) :=
  if n = ⟨#[105, 100]⟩ then some ({ c with i := v }, true)
  else if n = ⟨#[115, 101, 99, 114, 101, 116]⟩ then some ({ c with s := v }, true)
  else if n = ⟨#[117, 114, 108]⟩ then some ({ c with u := v }, true)
  else if n = ⟨#[112, 105, 110, 103]⟩ then some ({ c with pg := v.toList != [] }, v.toList == [] || v.toList == [121, 101, 115])
  else if n = ⟨#[103, 114, 97, 110, 116, 115]⟩ then some ({ c with gr := (grantsL (sL v) c.gr).1 }, (grantsL (sL v) c.gr).2 && (scopesL v.data.toList).2 == 0)
  else if n = ⟨#[115, 99, 111, 112, 101]⟩ then some ({ c with sc := sL v }, (scopesL v.data.toList).2 == 0)
  else none
def smallB (c : ClT) : Bool := decide (c.i.size ≤ 140737488355328 ∧ c.s.size ≤ 140737488355328 ∧ c.u.size ≤ 140737488355328 ∧ c.sc.length ≤ 140737488355328 ∧ (joinedL c.sc).length ≤ 140737488355328)
def lineL : List S68 → List S68 → ClT → Option (ClT × Bool)
  | [], _, c => if smallB c = true then some (c, checkL c) else none
  | p :: r, seen, c => match takeL p.f0 p.f1 c with
    | none => some (c, false)
    | some (c', ok) => if seen.any (namedF p.f0) = true then some (c, false) else if ok = true then lineL r (seen ++ [p]) c' else some (c', false)
theorem lineL_cons (p : S68) (r seen : List S68) (c : ClT) : lineL (p :: r) seen c = match takeL p.f0 p.f1 c with
    | none => some (c, false)
    | some (c', ok) => if seen.any (namedF p.f0) = true then some (c, false) else if ok = true then lineL r (seen ++ [p]) c' else some (c', false) := rfl
def zC : ClT := ⟨⟨#[]⟩, ⟨#[]⟩, 0, false, ⟨#[]⟩, []⟩
def flatC (r : ClT × Bool) : ByteArray × ByteArray × Int × Bool × ByteArray × List ByteArray × Bool := (r.1.i, r.1.s, r.1.gr, r.1.pg, r.1.u, r.1.sc, r.2)
end Go.Proofs.YtmimipgmhgalaaaGreatDoor.Spec
namespace Go.Proofs.YtmimipgmhgalaaaGreatDoor.PAll
open Go.RowKit Go.Proofs.YtmimipgmhgalaaaGreatDoorW.PrintWords Go.Proofs.YtmimipgmhgalaaaGreatDoor.Plain Go.Proofs.YtmimipgmhgalaaaGreatDoor.Spec Go.Proofs.YtmimipgmhgalaaaGreatDoor.Pure
set_option linter.unusedVariables false
set_option linter.unusedSimpArgs false
def client_parseLine.f (a0 : ByteArray) : Option (ByteArray × ByteArray × Int × Bool × ByteArray × List ByteArray × Bool) :=
  if a0.size ≤ 140737488355328 then (if (parse a0.data.toList).2.1 = 0 then (lineL ((parse a0.data.toList).1.map mk34) [] zC).map flatC else some (flatC (zC, false))) else none
theorem zRule (w : World) : (zeroValue 137).run Tryz.prog w = .ok (.agg #[.nilFunc]) w := by kernel_rfl
theorem look_there (w : World) (mb : Nat) (hb : w.heap[mb]? = some (.map ruleTab 6)) (n : ByteArray) (i : Nat) (v : Value) (h : Instr.findNow .string (.string n) ruleTab.toList 0 = some (some (i, v))) :
    (Instr.lookup 133 (.map (some mb)) (.string n) true).run Tryz.prog w = .ok (.tuple #[v, .bool true]) w := by
  have hk : ∀ e, (Instr.checkKey e 10000 9 (.string n)).run Tryz.prog w = .ok () w := fun e => MapKept.run_checkKey Tryz.underlying9 (show MapKept.IsKey .string (.string n) from trivial) e 9999
  simp [Instr.lookup, run_underlying Tryz.underlying133, MapKept.run_getObj_map hb, hk, MapKept.run_findKey Tryz.underlying9 h, Result.andThen]
theorem look_none (w : World) (mb : Nat) (hb : w.heap[mb]? = some (.map ruleTab 6)) (n : ByteArray) (h : Instr.findNow .string (.string n) ruleTab.toList 0 = some none) :
    (Instr.lookup 133 (.map (some mb)) (.string n) true).run Tryz.prog w = .ok (.tuple #[.agg #[.nilFunc], .bool false]) w := by
  have hk : ∀ e, (Instr.checkKey e 10000 9 (.string n)).run Tryz.prog w = .ok () w := fun e => MapKept.run_checkKey Tryz.underlying9 (show MapKept.IsKey .string (.string n) from trivial) e 9999
  simp [Instr.lookup, run_underlying Tryz.underlying133, MapKept.run_getObj_map hb, hk, MapKept.run_findKey Tryz.underlying9 h, Result.andThen, zRule]
theorem bytes_ne {a b : ByteArray} (h : ¬ a = b) : (a == b) = false := by
  have e : (a == b) = (a.data == b.data) := rfl
  rw [e, beq_eq_false_iff_ne]
  intro e2
  exact h (by cases a; cases b; simp_all)
theorem find_none (n : ByteArray) (v : ByteArray) (c : ClT) (h : takeL n v c = none) : Instr.findNow .string (.string n) ruleTab.toList 0 = some none := by
  unfold takeL at h
  split at h
  · cases h
  · rename_i h1
    split at h
    · cases h
    · rename_i h2
      split at h
      · cases h
      · rename_i h3
        split at h
        · cases h
        · rename_i h4
          split at h
          · cases h
          · rename_i h5
            split at h
            · cases h
            · rename_i h6
              simp [ruleTab, Instr.findNow, Instr.sameNow, bytes_ne h1, bytes_ne h2, bytes_ne h3, bytes_ne h4, bytes_ne h5, bytes_ne h6]
/-- The function that the table has at a name, and what it does. -/
structure Taken (n v : ByteArray) (c c' : ClT) (ok : Bool) (i f : Nat) : Prop where
  find : Instr.findNow .string (.string n) ruleTab.toList 0 = some (some (i, ruleV f))
  enters : ∀ args w, (callFunc f args).run Tryz.prog w = .ok (.enter f args) w
  call : ∀ (w0 w : World) (g : Nat) (sv : Value), Cl w0 w g c.i c.s c.gr c.pg c.u sv → Kd.R Kd.string 9 w w0.heap.size (fun k => g < k) sv c.sc →
    Calls Tryz.prog f #[.pointer (some ⟨g, 0, none⟩), .string v] w fun e w' => e = .returned (.bool ok) ∧ ∃ sv', Cl w0 w' g c'.i c'.s c'.gr c'.pg c'.u sv' ∧ Kd.R Kd.string 9 w' w0.heap.size (fun k => g < k) sv' c'.sc ∧ KeepBut w w' g none
theorem R_kept {w w' : World} {base g : Nat} {sv : Value} {l : List ByteArray} (h : Kd.R Kd.string 9 w base (fun k => g < k) sv l) (hk : KeepBut w w' g none) : Kd.R Kd.string 9 w' base (fun k => g < k) sv l := Kd.R_keep h hk (fun k hk' e => by omega)
theorem take_any (n v : ByteArray) (c c' : ClT) (ok : Bool) (h : takeL n v c = some (c', ok)) : ∃ i f, Taken n v c c' ok i f := by
  obtain ⟨k, hk⟩ := Ev.rounds (scopes_ev v)
  unfold takeL at h
  split at h
  · rename_i hn
    subst hn
    simp only [Option.some.injEq, Prod.mk.injEq] at h
    obtain ⟨rfl, rfl⟩ := h
    exact ⟨0, 117, by kernel_rfl, enters_of Tryz.func117 (by kernel_rfl) rfl, fun w0 w g sv hC hR => (take_id g _ _ _ _ _ _ v w0 w hC).mono fun e w' ⟨he, h1, h2⟩ => ⟨he, sv, h1, R_kept hR h2, h2⟩⟩
  · split at h
    · rename_i hn
      subst hn
      simp only [Option.some.injEq, Prod.mk.injEq] at h
      obtain ⟨rfl, rfl⟩ := h
      exact ⟨1, 118, by kernel_rfl, enters_of Tryz.func118 (by kernel_rfl) rfl, fun w0 w g sv hC hR => (take_secret g _ _ _ _ _ _ v w0 w hC).mono fun e w' ⟨he, h1, h2⟩ => ⟨he, sv, h1, R_kept hR h2, h2⟩⟩
    · split at h
      · rename_i hn
        subst hn
        simp only [Option.some.injEq, Prod.mk.injEq] at h
        obtain ⟨rfl, rfl⟩ := h
        exact ⟨2, 119, by kernel_rfl, enters_of Tryz.func119 (by kernel_rfl) rfl, fun w0 w g sv hC hR => (take_url g _ _ _ _ _ _ v w0 w hC).mono fun e w' ⟨he, h1, h2⟩ => ⟨he, sv, h1, R_kept hR h2, h2⟩⟩
      · split at h
        · rename_i hn
          subst hn
          simp only [Option.some.injEq, Prod.mk.injEq] at h
          obtain ⟨rfl, rfl⟩ := h
          exact ⟨3, 120, by kernel_rfl, enters_of Tryz.func120 (by kernel_rfl) rfl, fun w0 w g sv hC hR => (take_ping g _ _ _ _ _ _ v w0 w hC).mono fun e w' ⟨he, h1, h2⟩ => ⟨he, sv, h1, R_kept hR h2, h2⟩⟩
        · split at h
          · rename_i hn
            subst hn
            simp only [Option.some.injEq, Prod.mk.injEq] at h
            obtain ⟨rfl, rfl⟩ := h
            exact ⟨4, 121, by kernel_rfl, enters_of Tryz.func121 (by kernel_rfl) rfl, fun w0 w g sv hC hR => (take_grants k g _ _ _ _ _ _ v _ _ hk w0 w hC).mono fun e w' ⟨he, h1, h2⟩ => ⟨he, sv, h1, R_kept hR h2, h2⟩⟩
          · split at h
            · rename_i hn
              subst hn
              simp only [Option.some.injEq, Prod.mk.injEq] at h
              obtain ⟨rfl, rfl⟩ := h
              refine ⟨5, 122, by kernel_rfl, enters_of Tryz.func122 (by kernel_rfl) rfl, fun w0 w g sv hC hR => (take_scope k g _ _ _ _ _ _ v _ _ hk w0 w hC).mono fun e w' ⟨he, sv', h1, h2, h3⟩ => ⟨he, sv', h1, ?_, h3⟩⟩
              have hg := blk_lt hC.b
              exact Kd.R_mono (Kd.R_lower (R_above h2) hC.o.size) (fun k hk => by omega)
            · cases h
theorem run_store_nilFunc {P : Program} {w : World} {a : Addr} {m : Mode} : (store a .nilFunc m).run P w = stored P w a .nilFunc m := run_store P w a _ m rfl
theorem run_store_fn {P : Program} {w : World} {a : Addr} {m : Mode} (f : Nat) : (store a (.func (.func f) #[] #[]) m).run P w = stored P w a (.func (.func f) #[] #[]) m := run_store P w a _ m rfl
attribute [local go_sem] run_store_nilFunc run_store_fn
/-- What stands while a line's pairs are gone through. -/
structure LineInv (w wr : World) (mb : Nat) (Af : Option Addr) (cf : Nat) (L : List S68) (c : ClT) (sv : Value) : Prop where
  cl : Cl w wr (w.heap.size + 1) c.i c.s c.gr c.pg c.u sv
  rs : wr.heap[w.heap.size]? = some (.cells (clCells ⟨#[]⟩ ⟨#[]⟩ 0 false ⟨#[]⟩ (.slice none 0 0)) 40 (0, 0))
  sc : Kd.R Kd.string 9 wr w.heap.size (fun k => w.heap.size + 1 < k) sv c.sc
  fm : Kd.R k68 68 wr w.heap.size (fun k => w.heap.size + 1 < k) (.slice Af L.length cf) L
  mp : wr.heap[mb]? = some (.map ruleTab 6)
  mn : w.heap.size + 1 < mb
section
variable {w wr : World} {mb : Nat} {Af : Option Addr} {cf : Nat} {L : List S68} {c : ClT} {sv : Value} (h : LineInv w wr mb Af cf L c sv)
include h
theorem LineInv.step {w' : World} (hb : Below wr.heap.size wr w') : LineInv w w' mb Af cf L c sv :=
  ⟨h.cl.step hb, blk_below h.rs hb, Kd.R_below h.sc hb, Kd.R_below h.fm hb, blk_below h.mp hb, h.mn⟩
theorem LineInv.turn {w' : World} {c' : ClT} {sv' : Value} (hk : KeepBut wr w' (w.heap.size + 1) none) (hc : Cl w w' (w.heap.size + 1) c'.i c'.s c'.gr c'.pg c'.u sv') (hr : Kd.R Kd.string 9 w' w.heap.size (fun k => w.heap.size + 1 < k) sv' c'.sc) : LineInv w w' mb Af cf L c' sv' :=
  ⟨hc, (hk.2 _ (blk_lt h.rs) (by omega) (by simp)).trans h.rs, hr, Kd.R_keep h.fm hk (fun k hk e => by omega), (hk.2 _ (blk_lt h.mp) (by have := h.mn; omega) (by simp)).trans h.mp, h.mn⟩
end
abbrev putRes (wr : World) (g : Nat) (c : ClT) (sv : Value) : World := (((((wr.setCell ⟨g, 0, none⟩ (.string c.i)).setCell ⟨g, 1, none⟩ (.string c.s)).setCell ⟨g, 2, none⟩ (.int .i64 c.gr)).setCell ⟨g, 3, none⟩ (.bool c.pg)).setCell ⟨g, 4, none⟩ (.string c.u)).setCell ⟨g, 5, none⟩ sv
theorem LineInv.done {w wr : World} {mb : Nat} {Af : Option Addr} {cf : Nat} {L : List S68} {c : ClT} {sv : Value} (h : LineInv w wr mb Af cf L c sv) :
    (putRes wr w.heap.size c sv).heap[w.heap.size]? = some (.cells (clCells c.i c.s c.gr c.pg c.u sv) 40 (0, 0)) ∧ Kd.R Kd.string 9 (putRes wr w.heap.size c sv) w.heap.size (fun _ => True) sv c.sc ∧ Below w.heap.size w (putRes wr w.heap.size c sv) := by
  refine ⟨blk_put (blk_put (blk_put (blk_put (blk_put (blk_put h.rs 0 _ rfl) 1 _ rfl) 2 _ rfl) 3 _ rfl) 4 _ rfl) 5 _ rfl, R_any (?_ : Kd.R Kd.string 9 _ w.heap.size (fun k => w.heap.size + 1 < k) sv c.sc), ?_⟩
  · have hne : ∀ k, w.heap.size + 1 < k → k ≠ w.heap.size := fun k hk e => by omega
    exact Kd.R_far (Kd.R_far (Kd.R_far (Kd.R_far (Kd.R_far (Kd.R_far h.sc hne _) hne _) hne _) hne _) hne _) hne _
  · have hg : w.heap.size ≤ w.heap.size := Nat.le_refl _
    exact below_set (below_set (below_set (below_set (below_set (below_set h.cl.o hg) hg) hg) hg) hg) hg
theorem rule_at {wr w3 : World} {p0 p1 : ByteArray} {f : Nat} (hb : Below ((wr.alloc (.cells #[.string p0, .string p1] 68)).alloc (.cells #[.func (.func f) #[] #[]] 137)).heap.size ((wr.alloc (.cells #[.string p0, .string p1] 68)).alloc (.cells #[.func (.func f) #[] #[]] 137)) w3) :
    w3.cell? ⟨wr.heap.size + 1, 0, none⟩ = some (.func (.func f) #[] #[]) := by
  have h := blk_new (wr.alloc (.cells #[.string p0, .string p1] 68)) (.cells #[.func (.func f) #[] #[]] 137)
  have hs : (wr.alloc (.cells #[.string p0, .string p1] 68)).heap.size = wr.heap.size + 1 := by show (wr.heap.push _).size = _; simp
  rw [hs] at h
  rw [blk_cell (blk_below h hb)]
  rfl
theorem pair_at {wr w3 : World} {p0 p1 : ByteArray} {f : Nat} (hb : Below ((wr.alloc (.cells #[.string p0, .string p1] 68)).alloc (.cells #[.func (.func f) #[] #[]] 137)).heap.size ((wr.alloc (.cells #[.string p0, .string p1] 68)).alloc (.cells #[.func (.func f) #[] #[]] 137)) w3) :
    w3.cell? ⟨wr.heap.size, 1, none⟩ = some (.string p1) := by
  rw [blk_cell (blk_below (blk_alloc (blk_new wr (.cells #[.string p0, .string p1] 68)) (.cells #[.func (.func f) #[] #[]] 137)) hb)]
  rfl
theorem line_start (w w1 : World) (Af : Option Addr) (cf : Nat) (L : List S68)
    (hb : Below ((w.alloc (.cells (clCells ⟨#[]⟩ ⟨#[]⟩ 0 false ⟨#[]⟩ (.slice none 0 0)) 40)).alloc (.cells (clCells ⟨#[]⟩ ⟨#[]⟩ 0 false ⟨#[]⟩ (.slice none 0 0)) 40)).heap.size ((w.alloc (.cells (clCells ⟨#[]⟩ ⟨#[]⟩ 0 false ⟨#[]⟩ (.slice none 0 0)) 40)).alloc (.cells (clCells ⟨#[]⟩ ⟨#[]⟩ 0 false ⟨#[]⟩ (.slice none 0 0)) 40)) w1)
    (ho : Kd.R k68 68 w1 ((w.alloc (.cells (clCells ⟨#[]⟩ ⟨#[]⟩ 0 false ⟨#[]⟩ (.slice none 0 0)) 40)).alloc (.cells (clCells ⟨#[]⟩ ⟨#[]⟩ 0 false ⟨#[]⟩ (.slice none 0 0)) 40)).heap.size (fun _ => True) (.slice Af L.length cf) L) :
    LineInv w (w1.alloc (.map ruleTab 6)) w1.heap.size Af cf L zC (.slice none 0 0) := by
  have h1 := blk_new w (.cells (clCells ⟨#[]⟩ ⟨#[]⟩ 0 false ⟨#[]⟩ (.slice none 0 0)) 40)
  have h2 := blk_new (w.alloc (.cells (clCells ⟨#[]⟩ ⟨#[]⟩ 0 false ⟨#[]⟩ (.slice none 0 0)) 40)) (.cells (clCells ⟨#[]⟩ ⟨#[]⟩ 0 false ⟨#[]⟩ (.slice none 0 0)) 40)
  have hB : Below w.heap.size w ((w.alloc (.cells (clCells ⟨#[]⟩ ⟨#[]⟩ 0 false ⟨#[]⟩ (.slice none 0 0)) 40)).alloc (.cells (clCells ⟨#[]⟩ ⟨#[]⟩ 0 false ⟨#[]⟩ (.slice none 0 0)) 40)) := below_alloc (below_alloc (Below.refl _ _) _) _
  have hs1 : (w.alloc (.cells (clCells ⟨#[]⟩ ⟨#[]⟩ 0 false ⟨#[]⟩ (.slice none 0 0)) 40)).heap.size = w.heap.size + 1 := by show (w.heap.push _).size = _; simp
  have hs2 : ((w.alloc (.cells (clCells ⟨#[]⟩ ⟨#[]⟩ 0 false ⟨#[]⟩ (.slice none 0 0)) 40)).alloc (.cells (clCells ⟨#[]⟩ ⟨#[]⟩ 0 false ⟨#[]⟩ (.slice none 0 0)) 40)).heap.size = w.heap.size + 2 := by show ((w.heap.push _).push _).size = _; simp
  rw [hs1] at h2
  have hz := hb.size
  have r1 := blk_below (blk_alloc h1 (.cells (clCells ⟨#[]⟩ ⟨#[]⟩ 0 false ⟨#[]⟩ (.slice none 0 0)) 40)) hb
  have r2 := blk_below h2 hb
  have hBw : Below w.heap.size w w1 := hB.trans (hb.mono (by omega))
  have ho' := Kd.R_lower (Kd.R_mono (Kd.R_bound ho) (ok' := fun k => w.heap.size + 1 < k) (fun k hk => by have := hk.2.1; omega)) (show w.heap.size ≤ _ by omega)
  refine LineInv.mk ⟨blk_alloc r2 _, below_alloc hBw _, by omega⟩ (blk_alloc r1 _) (Kd.R_nil _ _ _ _ _) (Kd.R_alloc ho' _) (blk_new w1 _) (by omega)
theorem line_first (w w1 : World) (Af : Option Addr) (cf : Nat) (L : List S68)
    (hb : Below ((w.alloc (.cells (clCells ⟨#[]⟩ ⟨#[]⟩ 0 false ⟨#[]⟩ (.slice none 0 0)) 40)).alloc (.cells (clCells ⟨#[]⟩ ⟨#[]⟩ 0 false ⟨#[]⟩ (.slice none 0 0)) 40)).heap.size ((w.alloc (.cells (clCells ⟨#[]⟩ ⟨#[]⟩ 0 false ⟨#[]⟩ (.slice none 0 0)) 40)).alloc (.cells (clCells ⟨#[]⟩ ⟨#[]⟩ 0 false ⟨#[]⟩ (.slice none 0 0)) 40)) w1)
    (ho : Kd.R k68 68 w1 ((w.alloc (.cells (clCells ⟨#[]⟩ ⟨#[]⟩ 0 false ⟨#[]⟩ (.slice none 0 0)) 40)).alloc (.cells (clCells ⟨#[]⟩ ⟨#[]⟩ 0 false ⟨#[]⟩ (.slice none 0 0)) 40)).heap.size (fun _ => True) (.slice Af L.length cf) L) :
    Cl w w1 (w.heap.size + 1) ⟨#[]⟩ ⟨#[]⟩ 0 false ⟨#[]⟩ (.slice none 0 0) ∧ w1.heap[w.heap.size]? = some (.cells (clCells ⟨#[]⟩ ⟨#[]⟩ 0 false ⟨#[]⟩ (.slice none 0 0)) 40 (0, 0)) := by
  have h1 := blk_new w (.cells (clCells ⟨#[]⟩ ⟨#[]⟩ 0 false ⟨#[]⟩ (.slice none 0 0)) 40)
  have h2 := blk_new (w.alloc (.cells (clCells ⟨#[]⟩ ⟨#[]⟩ 0 false ⟨#[]⟩ (.slice none 0 0)) 40)) (.cells (clCells ⟨#[]⟩ ⟨#[]⟩ 0 false ⟨#[]⟩ (.slice none 0 0)) 40)
  have hB : Below w.heap.size w ((w.alloc (.cells (clCells ⟨#[]⟩ ⟨#[]⟩ 0 false ⟨#[]⟩ (.slice none 0 0)) 40)).alloc (.cells (clCells ⟨#[]⟩ ⟨#[]⟩ 0 false ⟨#[]⟩ (.slice none 0 0)) 40)) := below_alloc (below_alloc (Below.refl _ _) _) _
  have hs1 : (w.alloc (.cells (clCells ⟨#[]⟩ ⟨#[]⟩ 0 false ⟨#[]⟩ (.slice none 0 0)) 40)).heap.size = w.heap.size + 1 := by show (w.heap.push _).size = _; simp
  have hs2 : ((w.alloc (.cells (clCells ⟨#[]⟩ ⟨#[]⟩ 0 false ⟨#[]⟩ (.slice none 0 0)) 40)).alloc (.cells (clCells ⟨#[]⟩ ⟨#[]⟩ 0 false ⟨#[]⟩ (.slice none 0 0)) 40)).heap.size = w.heap.size + 2 := by show ((w.heap.push _).push _).size = _; simp
  rw [hs1] at h2
  have hz := hb.size
  have r1 := blk_below (blk_alloc h1 (.cells (clCells ⟨#[]⟩ ⟨#[]⟩ 0 false ⟨#[]⟩ (.slice none 0 0)) 40)) hb
  have r2 := blk_below h2 hb
  have hBw : Below w.heap.size w w1 := hB.trans (hb.mono (by omega))
  exact ⟨⟨r2, hBw, by omega⟩, r1⟩
set_option maxHeartbeats 8000000 in
set_option maxRecDepth 100000 in
theorem client_parseLine.calls (a0 : ByteArray) (r1 r2 : ByteArray) (r3 : Int) (r4 : Bool) (r5 : ByteArray) (r6 : List ByteArray) (r7 : Bool) (w : World) (h : client_parseLine.f a0 = some (r1, r2, r3, r4, r5, r6, r7)) :
    Calls Tryz.prog 51 #[.string a0] w fun e w' => ∃ v0_ : Value, e = .returned (.tuple #[.agg #[.string r1, .string r2, .int .i64 r3, .bool r4, .string r5, v0_], .bool r7]) ∧ Kd.R Kd.string 9 w' w.heap.size (fun _ => True) v0_ r6 ∧ Below w.heap.size w w' := by
  unfold client_parseLine.f at h
  split at h
  · rename_i hs
    obtain ⟨kp, hkp⟩ := Ev.rounds (parse_ev a0 hs)
    split at h
    · rename_i he
      have hkp' : urlform_Parse.f kp a0 = some ((parse a0.data.toList).1.map mk34, 0, (parse a0.data.toList).2.2) := by rw [hkp]; unfold res34; rw [he]
      obtain ⟨L, hL⟩ : ∃ L, (parse a0.data.toList).1.map mk34 = L := ⟨_, rfl⟩
      obtain ⟨pl, hpl⟩ : ∃ pl, (parse a0.data.toList).2.2 = pl := ⟨_, rfl⟩
      rw [hL, hpl] at hkp'
      rw [hL] at h
      obtain ⟨R, hR⟩ : ∃ R, some R = lineL L [] zC := by
        cases hl : lineL L [] zC with
        | none => rw [hl] at h; cases h
        | some R => exact ⟨R, rfl⟩
      rw [← hR] at h
      have HH := Lib.hid h
      have HL := Lib.hid hR
      clear h hkp he hL hpl hR
      have hu137 := Tryz.underlying137
      have hu68 := Tryz.underlying68
      have hu40 := Tryz.underlying40
      go_enter Tryz.func51, Tryz.ntmps51
      go_wp2_with (first | (go_at_call 82; refine (urlform_Parse.calls kp a0 _ _ _ _ hkp').mono ?_; rintro e w1 ⟨v0, rfl, ho, hb⟩; obtain ⟨Af, cf, rfl⟩ := Kd.R_slice ho; have hI := line_start w w1 Af cf L hb ho; clear ho hb) | (go_at_call 83; refine (client_rules.calls _).mono ?_; rintro e w2 ⟨rfl, rfl⟩))
      go_loopw [26] (fun v26 wr => ∃ (j : Nat) (c : ClT) (sv : Value), v26 = .int .i64 (j : Int) ∧ j ≤ L.length ∧ LineInv w wr w1.heap.size Af cf L c sv ∧ some R = lineL (L.drop j) (L.take j) c) (fun v26 _ => L.length - (intOf v26).toNat)
      case atStart => exact ⟨0, zC, _, rfl, Nat.zero_le _, hI, HL.out⟩
      case round =>
        obtain ⟨j, c, sv, rfl, hj, hJ, hG⟩ := hrel
        clear hI
        obtain ⟨As, cs, rfl⟩ := Kd.R_slice hJ.sc
        have hF := Kd.R_reads' hJ.fm
        have hlen : L.length ≤ 9223372036854775807 := hF.2.2.2.1
        by_cases hlt : j < L.length
        · obtain ⟨ad, hA, hx0, hx1⟩ := at_T68 hF.2.2 (j : Int) (by omega) (by omega)
          subst hA
          have hp : rd_T68 L (j : Int) = L[j] := by simp [rd_T68, hlt]
          rw [hp] at hx0 hx1
          rw [List.drop_eq_getElem_cons hlt] at hG
          have htk := List.take_succ_eq_append_getElem hlt
          simp only [Int.toNat_natCast] at hx0 hx1
          clear hp
          generalize hpk : L[j] = p at *
          have hP1 : Below wr.heap.size wr (wr.alloc (.cells #[.string p.f0, .string p.f1] 68)) := below_alloc (Below.refl _ _) _
          have hJ1 := hJ.step hP1
          have hPb := blk_new wr (.cells #[.string p.f0, .string p.f1] 68)
          have hLj : (L.take j).length = j := by rw [List.length_take]; omega
          have hmono := fun o => hJ1.step (below_alloc (Below.refl _ _) o)
          have hall := fun (o : Obj) => all_twice (some ad) cf (L.take j) p.f0 p.f1 wr.heap.size ((wr.alloc (.cells #[.string p.f0, .string p.f1] 68)).alloc o) (C_take (Kd.R_reads' (hmono o).fm).2.2 j hj) (blk_alloc hPb o)
          rw [hLj] at hall
          cases hT : takeL p.f0 p.f1 c with
          | none =>
            have hlk := look_none (wr.alloc (.cells #[.string p.f0, .string p.f1] 68)) w1.heap.size hJ1.mp p.f0 (find_none _ _ _ hT)
            have hall0 := hall (.cells #[.nilFunc] 137)
            have hJ2 := hmono (.cells #[.nilFunc] 137)
            clear hall hmono
            have HJ := Lib.hid hJ
            have HJ1 := Lib.hid hJ1
            have HJ2 := Lib.hid hJ2
            have hh := HH.out
            have hR : some R = some (c, false) := by rw [hG, lineL_cons, hT]
            rw [hR] at hh
            simp only [Option.map_some, flatC, Option.some.injEq, Prod.mk.injEq] at hh
            have HR := Lib.hid hh
            clear hJ hJ1 hJ2 hG hR hh
            go_wp2_with (go_at_call 84; refine hall0.mono ?_; rintro e w3 ⟨rfl, hb3⟩; have hJ3 := HJ2.out.step hb3; have cc0 := hJ3.cl.c0; have cc1 := hJ3.cl.c1; have cc2 := hJ3.cl.c2; have cc3 := hJ3.cl.c3; have cc4 := hJ3.cl.c4; have cc5 := hJ3.cl.c5; have rc0 := blk_cell hJ3.rs 0; have rc1 := blk_cell hJ3.rs 1; have rc2 := blk_cell hJ3.rs 2; have rc3 := blk_cell hJ3.rs 3; have rc4 := blk_cell hJ3.rs 4; have rc5 := blk_cell hJ3.rs 5; have rf0 := blk_frozen hJ3.rs 0; have rf1 := blk_frozen hJ3.rs 1; have rf2 := blk_frozen hJ3.rs 2; have rf3 := blk_frozen hJ3.rs 3; have rf4 := blk_frozen hJ3.rs 4; have rf5 := blk_frozen hJ3.rs 5; have hE := Lib.hid hJ3.done)
            refine bodyPost_ret (results_ct rfl _ _ w.heap.size 40 (clCells c.i c.s c.gr c.pg c.u (.slice As c.sc.length cs)) (0, 0) _ rfl hE.out.1 hu40 rfl (by kernel_rfl)) rfl ?_
            obtain ⟨h1, h2, h3, h4, h5, h6, h7⟩ := HR.out
            exact ⟨_, by rw [← h1, ← h2, ← h3, ← h4, ← h5, ← h7]; rfl, by rw [← h6]; exact hE.out.2.1, hE.out.2.2⟩
          | some q =>
            obtain ⟨c', ok⟩ := q
            obtain ⟨ix, f, T⟩ := take_any _ _ _ _ _ hT
            have hlk := look_there (wr.alloc (.cells #[.string p.f0, .string p.f1] 68)) w1.heap.size hJ1.mp p.f0 ix (ruleV f) T.find
            have hall0 := hall (.cells #[.func (.func f) #[] #[]] 137)
            have hJ2 := hmono (.cells #[.func (.func f) #[] #[]] 137)
            have eF := T.enters
            clear hall hmono
            have HJ := Lib.hid hJ
            have HJ1 := Lib.hid hJ1
            have HJ2 := Lib.hid hJ2
            have HT := Lib.hid T
            clear T hJ hJ1 hJ2
            cases htw : (L.take j).any (namedF p.f0) with
            | true =>
              rw [htw] at hall0
              have hh := HH.out
              have hR : some R = some (c, false) := by rw [hG, lineL_cons, hT]; show (if (L.take j).any (namedF p.f0) = true then _ else _) = _; rw [htw]; rfl
              rw [hR] at hh
              simp only [Option.map_some, flatC, Option.some.injEq, Prod.mk.injEq] at hh
              have HR := Lib.hid hh
              clear hG hR hh
              go_wp2_with (go_at_call 84; refine hall0.mono ?_; rintro e w3 ⟨rfl, hb3⟩; have hJ3 := HJ2.out.step hb3; have cc0 := hJ3.cl.c0; have cc1 := hJ3.cl.c1; have cc2 := hJ3.cl.c2; have cc3 := hJ3.cl.c3; have cc4 := hJ3.cl.c4; have cc5 := hJ3.cl.c5; have rc0 := blk_cell hJ3.rs 0; have rc1 := blk_cell hJ3.rs 1; have rc2 := blk_cell hJ3.rs 2; have rc3 := blk_cell hJ3.rs 3; have rc4 := blk_cell hJ3.rs 4; have rc5 := blk_cell hJ3.rs 5; have rf0 := blk_frozen hJ3.rs 0; have rf1 := blk_frozen hJ3.rs 1; have rf2 := blk_frozen hJ3.rs 2; have rf3 := blk_frozen hJ3.rs 3; have rf4 := blk_frozen hJ3.rs 4; have rf5 := blk_frozen hJ3.rs 5; have hE := Lib.hid hJ3.done)
              refine bodyPost_ret (results_ct rfl _ _ w.heap.size 40 (clCells c.i c.s c.gr c.pg c.u (.slice As c.sc.length cs)) (0, 0) _ rfl hE.out.1 hu40 rfl (by kernel_rfl)) rfl ?_
              obtain ⟨h1, h2, h3, h4, h5, h6, h7⟩ := HR.out
              exact ⟨_, by rw [← h1, ← h2, ← h3, ← h4, ← h5, ← h7]; rfl, by rw [← h6]; exact hE.out.2.1, hE.out.2.2⟩
            | false =>
              rw [htw] at hall0
              have hG2 : some R = if ok = true then lineL (L.drop (j + 1)) (L.take (j + 1)) c' else some (c', false) := by rw [hG, lineL_cons, hT, htk]; show (if (L.take j).any (namedF p.f0) = true then _ else _) = _; rw [htw]; rfl
              clear hG
              cases ok with
              | true =>
                rw [if_pos rfl] at hG2
                have HG2 := Lib.hid hG2
                clear hG2
                go_wp2_with (first | (go_at_call 84; refine hall0.mono ?_; rintro e w3 ⟨rfl, hb3⟩; have hJ3 := HJ2.out.step hb3; have hq := rule_at hb3; have hpv := pair_at hb3) | (go_at_fn f; refine (HT.out.call w w3 (w.heap.size + 1) _ hJ3.cl hJ3.sc).mono ?_; rintro e w4 ⟨rfl, sv', hC', hR', hK'⟩))
                exact ⟨⟨j + 1, c', sv', rfl, by omega, hJ3.turn hK' hC' hR', HG2.out⟩, by simp [intOf]; omega⟩
              | false =>
                rw [if_neg (by simp)] at hG2
                have hh := HH.out
                rw [hG2] at hh
                simp only [Option.map_some, flatC, Option.some.injEq, Prod.mk.injEq] at hh
                have HR := Lib.hid hh
                clear hG2 hh
                go_wp2_with (first | (go_at_call 84; refine hall0.mono ?_; rintro e w3 ⟨rfl, hb3⟩; have hJ3 := HJ2.out.step hb3; have hq := rule_at hb3; have hpv := pair_at hb3) | (go_at_fn f; refine (HT.out.call w w3 (w.heap.size + 1) _ hJ3.cl hJ3.sc).mono ?_; rintro e w4 ⟨rfl, sv', hC', hR', hK'⟩; have hJ4 := hJ3.turn hK' hC' hR'; clear hq hpv hC' hK'; obtain ⟨As', cs', rfl⟩ := Kd.R_slice hR'; have cc0 := hJ4.cl.c0; have cc1 := hJ4.cl.c1; have cc2 := hJ4.cl.c2; have cc3 := hJ4.cl.c3; have cc4 := hJ4.cl.c4; have cc5 := hJ4.cl.c5; have rc0 := blk_cell hJ4.rs 0; have rc1 := blk_cell hJ4.rs 1; have rc2 := blk_cell hJ4.rs 2; have rc3 := blk_cell hJ4.rs 3; have rc4 := blk_cell hJ4.rs 4; have rc5 := blk_cell hJ4.rs 5; have rf0 := blk_frozen hJ4.rs 0; have rf1 := blk_frozen hJ4.rs 1; have rf2 := blk_frozen hJ4.rs 2; have rf3 := blk_frozen hJ4.rs 3; have rf4 := blk_frozen hJ4.rs 4; have rf5 := blk_frozen hJ4.rs 5; have hE := Lib.hid hJ4.done))
                refine bodyPost_ret (results_ct rfl _ _ w.heap.size 40 (clCells c'.i c'.s c'.gr c'.pg c'.u (.slice As' c'.sc.length cs')) (0, 0) _ rfl hE.out.1 hu40 rfl (by kernel_rfl)) rfl ?_
                obtain ⟨h1, h2, h3, h4, h5, h6, h7⟩ := HR.out
                exact ⟨_, by rw [← h1, ← h2, ← h3, ← h4, ← h5, ← h7]; rfl, by rw [← h6]; exact hE.out.2.1, hE.out.2.2⟩
        · have hge : decide (j < L.length) = false := decide_eq_false hlt
          rw [List.drop_eq_nil_of_le (by omega)] at hG
          have hsm : smallB c = true := by
            cases hb : smallB c with
            | true => rfl
            | false => unfold lineL at hG; rw [hb] at hG; simp at hG
          have hG2 : some R = some (c, checkL c) := by rw [hG]; unfold lineL; rw [hsm]; rfl
          have hh := HH.out
          rw [hG2] at hh
          simp only [Option.map_some, flatC, Option.some.injEq, Prod.mk.injEq] at hh
          have HR := Lib.hid hh
          unfold smallB at hsm
          obtain ⟨s1, s2, s3, s4, s5⟩ := of_decide_eq_true hsm
          obtain ⟨kc, hkc⟩ := Ev.rounds (check_ev c ⟨s1, s2, s3, s4, s5⟩)
          have hS := Kd.R_reads' hJ.sc
          have HJ := Lib.hid hJ
          have hJ3 := hJ.step (Below.drew (Below.refl _ wr))
          clear hG hG2 hh hsm s1 s2 s3 s4 s5 hJ hS hF
          have hS := Kd.R_reads' hJ3.sc
          have HS1 := Lib.hid hS.2.2
          have HS2 := Lib.hid hS.2.1
          have HK := Lib.hid hkc
          clear hS hkc
          have cc0 := hJ3.cl.c0
          have cc1 := hJ3.cl.c1
          have cc2 := hJ3.cl.c2
          have cc3 := hJ3.cl.c3
          have cc4 := hJ3.cl.c4
          have cc5 := hJ3.cl.c5
          have rc0 := blk_cell hJ3.rs 0
          have rc1 := blk_cell hJ3.rs 1
          have rc2 := blk_cell hJ3.rs 2
          have rc3 := blk_cell hJ3.rs 3
          have rc4 := blk_cell hJ3.rs 4
          have rc5 := blk_cell hJ3.rs 5
          have rf0 := blk_frozen hJ3.rs 0
          have rf1 := blk_frozen hJ3.rs 1
          have rf2 := blk_frozen hJ3.rs 2
          have rf3 := blk_frozen hJ3.rs 3
          have rf4 := blk_frozen hJ3.rs 4
          have rf5 := blk_frozen hJ3.rs 5
          have hE := Lib.hid hJ3.done
          clear hE
          have HJ3 := Lib.hid hJ3
          clear hJ3
          go_wp2
          go_region_with (go_at_call 23; refine (client_Check.calls kc c.i c.s c.gr c.pg c.u As cs c.sc _ _ HS1.out HS2.out HK.out).mono ?_; rintro e w3 ⟨rfl, hb3⟩; have hJ4 := HJ3.out.step hb3; have cc0 := hJ4.cl.c0; have cc1 := hJ4.cl.c1; have cc2 := hJ4.cl.c2; have cc3 := hJ4.cl.c3; have cc4 := hJ4.cl.c4; have cc5 := hJ4.cl.c5; have rc0 := blk_cell hJ4.rs 0; have rc1 := blk_cell hJ4.rs 1; have rc2 := blk_cell hJ4.rs 2; have rc3 := blk_cell hJ4.rs 3; have rc4 := blk_cell hJ4.rs 4; have rc5 := blk_cell hJ4.rs 5; have rf0 := blk_frozen hJ4.rs 0; have rf1 := blk_frozen hJ4.rs 1; have rf2 := blk_frozen hJ4.rs 2; have rf3 := blk_frozen hJ4.rs 3; have rf4 := blk_frozen hJ4.rs 4; have rf5 := blk_frozen hJ4.rs 5; have hE := Lib.hid hJ4.done)
          all_goals
            go_wp2
            refine bodyPost_ret (results_ct rfl _ _ w.heap.size 40 (clCells c.i c.s c.gr c.pg c.u (.slice As c.sc.length cs)) (0, 0) _ rfl hE.out.1 hu40 rfl (by kernel_rfl)) rfl ?_
            obtain ⟨h1, h2, h3, h4, h5, h6, h7⟩ := HR.out
            have hn : (numC (checkL c) == 0) = checkL c := by cases checkL c <;> rfl
            refine ⟨_, ?_, by rw [← h6]; exact hE.out.2.1, hE.out.2.2⟩
            rw [← h1, ← h2, ← h3, ← h4, ← h5, ← hn.trans h7]
            rfl
    · rename_i he
      have hkp' : urlform_Parse.f kp a0 = some ((parse a0.data.toList).1.map mk34, (parse a0.data.toList).2.1, (parse a0.data.toList).2.2) := hkp
      simp only [flatC, zC, Option.some.injEq, Prod.mk.injEq] at h
      obtain ⟨rfl, rfl, rfl, rfl, rfl, rfl, rfl⟩ := h
      obtain ⟨L, hL⟩ : ∃ L, (parse a0.data.toList).1.map mk34 = L := ⟨_, rfl⟩
      obtain ⟨pl, hpl⟩ : ∃ pl, (parse a0.data.toList).2.2 = pl := ⟨_, rfl⟩
      obtain ⟨ec, hec⟩ : ∃ ec, (parse a0.data.toList).2.1 = ec := ⟨_, rfl⟩
      rw [hL, hpl, hec] at hkp'
      rw [hec] at he
      have hne : (ec == 0) = false := beq_eq_false_iff_ne.2 he
      clear hkp hec hL hpl
      have hu40 := Tryz.underlying40
      go_enter Tryz.func51, Tryz.ntmps51
      go_wp2_with (go_at_call 82; refine (urlform_Parse.calls kp a0 _ _ _ _ hkp').mono ?_; rintro e w1 ⟨v0, rfl, ho, hb⟩; obtain ⟨Af, cf, rfl⟩ := Kd.R_slice ho; obtain ⟨hC, hZ⟩ := line_first w w1 Af cf L hb ho; clear ho hb; have cc0 := hC.c0; have cc1 := hC.c1; have cc2 := hC.c2; have cc3 := hC.c3; have cc4 := hC.c4; have cc5 := hC.c5; have rc0 := blk_cell hZ 0; have rc1 := blk_cell hZ 1; have rc2 := blk_cell hZ 2; have rc3 := blk_cell hZ 3; have rc4 := blk_cell hZ 4; have rc5 := blk_cell hZ 5; have rf0 := blk_frozen hZ 0; have rf1 := blk_frozen hZ 1; have rf2 := blk_frozen hZ 2; have rf3 := blk_frozen hZ 3; have rf4 := blk_frozen hZ 4; have rf5 := blk_frozen hZ 5)
      have hblk := blk_put (blk_put (blk_put (blk_put (blk_put (blk_put hZ 0 (.string ⟨#[]⟩) rfl) 1 (.string ⟨#[]⟩) rfl) 2 (.int .i64 0) rfl) 3 (.bool false) rfl) 4 (.string ⟨#[]⟩) rfl) 5 (.slice none 0 0) rfl
      refine bodyPost_ret (results_ct rfl _ _ w.heap.size 40 (clCells ⟨#[]⟩ ⟨#[]⟩ 0 false ⟨#[]⟩ (.slice none 0 0)) (0, 0) _ rfl hblk hu40 rfl (by kernel_rfl)) rfl ?_
      have hg : w.heap.size ≤ w.heap.size := Nat.le_refl _
      exact ⟨_, rfl, Kd.R_nil _ _ _ _ _, below_set (below_set (below_set (below_set (below_set (below_set hC.o hg) hg) hg) hg) hg) hg⟩
  · cases h
end Go.Proofs.YtmimipgmhgalaaaGreatDoor.PAll
