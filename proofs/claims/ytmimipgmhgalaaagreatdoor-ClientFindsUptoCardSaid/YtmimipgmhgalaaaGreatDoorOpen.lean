/-
  A general way to open what came in: whatever reads as data at a type is a value of the print's kind (Kd), its measure at most the datum's bulk, its sizes within the form's reach. Plain theorems.
-/
import Derived.Test.YtmimipgmhgalaaaGreatDoorRows
import Derived.Test.YtmimipgmhgalaaaGreatDoorWWords
import Derived.ProofKit
import Derived.WalkKit
import Derived.SizedLaws
namespace Go.Proofs.YtmimipgmhgalaaaGreatDoor.Open
open Go.ChangeShapes Go.WideShapes Go.ChangeAt Go.RowKit Go.Proofs.YtmimipgmhgalaaaGreatDoorW.PrintWords

/-- Whatever reads as data at type T is of the kind d; m is at most the datum's bulk; ok holds within the form's reach. -/
def Opens {α : Type} (P : Program) (T : TypeId) (d : Kd α) (m : α → Nat) (ok : α → Prop) : Prop :=
  ∀ (H : Type) (enc : TypeId × Value → H) (w : World) (base : Nat) (spare : Nat → Bool) (held : Bool) (fuel : Nat) (cs : List Value) (x : DataW H × List MemPlace),
    DataW.trod enc P w base spare held fuel T cs = some x → ∃ a, d.K w a cs ∧ m a ≤ Rows.uptoBulk x.1 ∧ ((DataW.weights P T x.1).all (· ≤ reachBytes) = true → ok a)

theorem opens_string {P : Program} {T : TypeId} (hu : P.underlying T = some .string) : Opens P T Kd.string (fun s => s.size + 1) (fun s => s.size ≤ 140737488351232) := by
  intro H enc w base spare held fuel cs x h
  obtain ⟨s, rfl, rfl, _⟩ := DataW.trod_string hu h
  refine ⟨s, rfl, ?_, fun hw => ?_⟩
  · simp [Rows.uptoBulk]
  · simp only [DataW.weights, List.all_cons, List.all_nil, Bool.and_true, reachBytes, Array.length_toList] at hw
    exact of_decide_eq_true hw

theorem opens_int {P : Program} {T : TypeId} {k : IntKind} (hu : P.underlying T = some (.int k)) : Opens P T (Kd.int k) (fun _ => 1) (fun n => (Lit.int k n).wf = true) := by
  intro H enc w base spare held fuel cs x h
  obtain ⟨n, rfl, rfl, hw⟩ := DataW.trod_int hu h
  exact ⟨n, rfl, by simp [Rows.uptoBulk], fun _ => hw⟩

theorem opens_bool {P : Program} {T : TypeId} (hu : P.underlying T = some .bool) : Opens P T Kd.bool (fun _ => 1) (fun _ => True) := by
  intro H enc w base spare held fuel cs x h
  have h' : ∃ b, cs = [.bool b] ∧ x = (.lit (.bool b), []) := by
    cases fuel with
    | zero => simp [DataW.trod] at h
    | succ n =>
      unfold DataW.trod at h
      rw [hu] at h
      split at h <;> simp_all
  obtain ⟨b, rfl, rfl⟩ := h'
  exact ⟨b, rfl, by simp [Rows.uptoBulk], fun _ => trivial⟩

theorem cells?_at {w : World} {base : Nat} {a : Addr} {n : Nat} {cs : List Value} (h : w.cells? base a n = some cs) : cs.length = n ∧ ∀ (i : Nat) (u : Value), cs[i]? = some u → w.cell? (a.add i) = some u := by
  unfold World.cells? at h
  split at h
  · refine ⟨by simpa using mapM_some_length h, fun i u hu => ?_⟩
    have hi : i < n := by
      have h1 := (List.getElem?_eq_some_iff.1 hu).1
      have h2 : cs.length = n := by simpa using mapM_some_length h
      omega
    have := mapM_some_get h i i (by simp [hi])
    rw [this, hu]
  · cases h

theorem bulk_all_le {H : Type} {α : Type} {m : α → Nat} : ∀ (l : List α) (ys : List (DataW H)), l.length ≤ ys.length → (∀ (i : Nat) (a : α) (y : DataW H), l[i]? = some a → ys[i]? = some y → m a ≤ Rows.uptoBulk y) → (l.map m).sum ≤ Rows.uptoBulkAll ys
  | [], ys, _, _ => by simp
  | a :: l, [], hl, _ => by simp at hl
  | a :: l, y :: ys, hl, h => by
    have h0 := h 0 a y rfl rfl
    have h1 := bulk_all_le l ys (by simpa using hl) (fun i b z hb hz => h (i + 1) b z (by simpa using hb) (by simpa using hz))
    simp only [List.map_cons, List.sum_cons, Rows.uptoBulkAll]
    omega

theorem weights_all_at {H : Type} (P : Program) (e : TypeId) : ∀ (ys : List (DataW H)), (DataW.weightsAll P e ys).all (· ≤ reachBytes) = true → ∀ (i : Nat) (y : DataW H), ys[i]? = some y → (DataW.weights P e y).all (· ≤ reachBytes) = true
  | [], _, i, y, hy => by simp at hy
  | z :: ys, h, i, y, hy => by
    rw [DataW.weightsAll, List.all_append, Bool.and_eq_true] at h
    cases i with
    | zero => simp at hy; subst hy; exact h.1
    | succ i => exact weights_all_at P e ys h.2 i y (by simpa using hy)

theorem choose_list {α β : Type} {n : Nat} {ys : List β} (hn : ys.length = n) {Q : Nat → β → α → Prop} (h : ∀ (i : Nat) (y : β), ys[i]? = some y → ∃ a, Q i y a) : ∃ l : List α, l.length = n ∧ ∀ (i : Nat) (y : β) (a : α), ys[i]? = some y → l[i]? = some a → Q i y a := by
  induction ys generalizing n Q with
  | nil => exact ⟨[], by simpa using hn, by simp⟩
  | cons y ys ih =>
    obtain ⟨a, ha⟩ := h 0 y rfl
    obtain ⟨l, hl, hq⟩ := ih (n := ys.length) rfl (Q := fun i => Q (i + 1)) (fun i z hz => h (i + 1) z (by simpa using hz))
    refine ⟨a :: l, by simp at hn ⊢; omega, fun i z b hz hb => ?_⟩
    cases i with
    | zero => simp at hz hb; subst hz hb; exact ha
    | succ i => exact hq i z b (by simpa using hz) (by simpa using hb)

theorem opens_slice {α : Type} {P : Program} {T e : TypeId} {d : Kd α} {m : α → Nat} {ok : α → Prop} {B : Nat} (hu : P.underlying T = some (.slice e)) (ho : Opens P e d m ok) (hc : P.cellsOf e = d.sz) (hB : P.bytesOf e = B) :
    Opens P T (Kd.slice e d) (fun l => (l.map m).sum + 1) (fun l => l.length * B ≤ 140737488351232 ∧ ∀ a, a ∈ l → ok a) := by
  intro H enc w base spare held fuel cs x h
  rcases DataW.trod_slice hu h with ⟨rfl, rfl⟩ | ⟨a, len, cap, elems, rest, n, _, rfl, rfl, hb, hl, hm, hlen, hel, hsp, hns⟩
  · refine ⟨[], ⟨none, 0, rfl, Nat.le_refl _, rfl, by simp, fun h => absurd h (by simp)⟩, by simp [Rows.uptoBulk], fun _ => ⟨by simp, by simp⟩⟩
  · have each : ∀ (i : Nat) (y : DataW H × List MemPlace), elems[i]? = some y → ∃ b : α, (∃ c, d.K w b c ∧ c.length = d.sz ∧ ∀ (j : Nat) (u : Value), c[j]? = some u → w.cell? ((a.add (i * d.sz)).add j) = some u) ∧ m b ≤ Rows.uptoBulk y.1 ∧ ((DataW.weights P e y.1).all (· ≤ reachBytes) = true → ok b) := by
      intro i y hy
      have hi : i < len := by rw [← hlen]; exact (List.getElem?_eq_some_iff.1 hy).1
      have h1 := hel i hi
      rw [hy, Option.bind_eq_some_iff] at h1
      obtain ⟨c, hcs, ht⟩ := h1
      obtain ⟨b, hk, hm', hok⟩ := ho H enc w base spare held n c y ht
      rw [hc] at hcs
      obtain ⟨hcl, hcc⟩ := cells?_at hcs
      exact ⟨b, ⟨c, hk, hcl, hcc⟩, hm', hok⟩
    obtain ⟨l, hll, hq⟩ := choose_list hlen each
    have hget : ∀ (i : Nat) (b : α), l[i]? = some b → ∃ y, elems[i]? = some y := fun i b hb => by
      have hi : i < l.length := (List.getElem?_eq_some_iff.1 hb).1
      exact ⟨elems[i]'(by omega), List.getElem?_eq_getElem (by omega)⟩
    refine ⟨l, ⟨some a, cap, by rw [hll], by omega, ⟨rfl, by unfold maxLen at hm; omega, fun _ => ⟨a, rfl, fun j p hp => ?_⟩⟩⟩, ?_, fun hw => ?_⟩
    · obtain ⟨y, hy⟩ := hget j p hp
      obtain ⟨⟨c, hk, hcl, hcc⟩, _⟩ := hq j y p hy hp
      exact ⟨c, hcl, hk, fun i u hu' => by rw [← add_add]; exact hcc i u hu'⟩
    · have h1 := bulk_all_le l (elems.map (·.1)) (by simp; omega) (fun i b y hb hy => by
        simp only [List.getElem?_map, Option.map_eq_some_iff] at hy
        obtain ⟨z, hz, rfl⟩ := hy
        exact (hq i z b hz hb).2.1)
      simp only [Rows.uptoBulk]
      omega
    · rw [DataW.weights, hu] at hw
      simp only [hB] at hw
      simp only [List.all_cons, Bool.and_eq_true, List.all_append, decide_eq_true_eq, List.length_map, hlen] at hw
      refine ⟨?_, fun b hb => ?_⟩
      · rw [hll]
        have := hw.1
        unfold reachBytes at this
        exact Nat.le_trans (Nat.mul_le_mul_right _ (by omega)) this
      · obtain ⟨i, hi⟩ := List.getElem?_of_mem hb
        obtain ⟨y, hy⟩ := hget i b hi
        exact (hq i y b hy hi).2.2 (weights_all_at P e _ hw.2.1 i y.1 (by simp [hy]))

/-- A slice among the parameters. -/
theorem arg_slice {α : Type} {H : Type} {enc : TypeId × Value → H} {P : Program} {W : World} {base b0 : Nat} {r : Reach} {spare : Nat → Bool} {held : Bool} {T e : TypeId} {d : Kd α} {m : List α → Nat} {ok : List α → Prop} {v : Value} {x : DataW H} {ps : List MemPlace}
    (hu : P.underlying T = some (.slice e)) (ho : Opens P T (Kd.slice e d) m ok) (hv : Value.okWide P W r b0 T v) (h : DataW.Trod enc P W base spare held T v x ps) :
    ∃ (l : List α) (A : Option Addr) (c : Nat), v = .slice A l.length c ∧ l.length ≤ c ∧ Kd.C d W A l.length l ∧ m l ≤ Rows.uptoBulk x ∧ ((DataW.weights P T x).all (· ≤ reachBytes) = true → ok l) := by
  obtain ⟨a, len, cap, rfl⟩ := okWide_slice hu hv
  obtain ⟨fuel, hf⟩ := h
  obtain ⟨l, ⟨A, c, hcs, hlc, hC⟩, hm, hok⟩ := ho H enc W base spare held fuel _ _ hf
  simp only [Value.cells, List.cons.injEq, and_true] at hcs
  exact ⟨l, A, c, hcs, hlc, hC, hm, hok⟩
theorem arg_string {H : Type} {enc : TypeId × Value → H} {P : Program} {W : World} {base b0 : Nat} {r : Reach} {spare : Nat → Bool} {held : Bool} {T : TypeId} {v : Value} {x : DataW H} {ps : List MemPlace}
    (hu : P.underlying T = some .string) (hv : Value.okWide P W r b0 T v) (h : DataW.Trod enc P W base spare held T v x ps) :
    ∃ s : ByteArray, v = .string s ∧ s.size + 1 ≤ Rows.uptoBulk x ∧ ((DataW.weights P T x).all (· ≤ reachBytes) = true → s.size ≤ 140737488351232) := by
  obtain ⟨s, rfl⟩ := okWide_string hu hv
  obtain ⟨fuel, hf⟩ := h
  obtain ⟨l, hcs, hm, hok⟩ := opens_string hu H enc W base spare held fuel _ _ hf
  have e : s = l := by
    have h2 : [Value.string s] = [Value.string l] := hcs
    injection h2 with h2
    injection h2
  subst e
  exact ⟨s, rfl, hm, hok⟩
theorem arg_struct {α : Type} {H : Type} {enc : TypeId × Value → H} {P : Program} {W : World} {base b0 : Nat} {r : Reach} {spare : Nat → Bool} {held : Bool} {T : TypeId} {fs : Array Field} {d : Kd α} {m : α → Nat} {ok : α → Prop} {v : Value} {x : DataW H} {ps : List MemPlace}
    (hu : P.underlying T = some (.struct fs)) (ho : Opens P T d m ok) (hv : Value.okWide P W r b0 T v) (h : DataW.Trod enc P W base spare held T v x ps) :
    ∃ (a : α) (cs : List Value), v = .agg cs.toArray ∧ d.K W a cs ∧ m a ≤ Rows.uptoBulk x ∧ ((DataW.weights P T x).all (· ≤ reachBytes) = true → ok a) := by
  obtain ⟨cs, rfl, _⟩ := okWide_struct hu hv
  obtain ⟨fuel, hf⟩ := h
  obtain ⟨a, hK, hm, hok⟩ := ho H enc W base spare held fuel _ _ hf
  exact ⟨a, cs.toList, rfl, hK, hm, hok⟩
theorem arg_int {H : Type} {enc : TypeId × Value → H} {P : Program} {W : World} {base b0 : Nat} {r : Reach} {spare : Nat → Bool} {held : Bool} {T : TypeId} {k : IntKind} {v : Value} {x : DataW H} {ps : List MemPlace}
    (hu : P.underlying T = some (.int k)) (hv : Value.okWide P W r b0 T v) (h : DataW.Trod enc P W base spare held T v x ps) :
    ∃ n : Int, v = .int k n ∧ (Lit.int k n).wf = true := by
  obtain ⟨s, rfl⟩ := okWide_int hu hv
  obtain ⟨fuel, hf⟩ := h
  obtain ⟨n, hcs, _, hw⟩ := DataW.trod_int hu hf
  have h2 : [Value.int k s] = [Value.int k n] := hcs
  injection h2 with h2
  injection h2 with _ h2
  subst h2
  exact ⟨s, rfl, hw⟩
theorem trod_lt' {H : Type} {enc : TypeId × Value → H} {P : Program} {W : World} {spare : Nat → Bool} {held : Bool} {T : TypeId} {v : Value} {x : DataW H} {ps : List MemPlace}
    (h : DataW.Trod enc P W 0 spare held T v x ps) : ∀ y ∈ ps, y.block < W.heap.size := by
  obtain ⟨m, hm⟩ := h
  exact DataW.trod_lt m _ _ _ hm
end Go.Proofs.YtmimipgmhgalaaaGreatDoor.Open
