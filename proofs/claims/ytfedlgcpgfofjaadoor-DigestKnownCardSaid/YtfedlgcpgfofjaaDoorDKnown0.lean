/-
  The sums and keyed sums that everybody knows, as closed facts; rows of slices.
-/
import Derived.Test.YtfedlgcpgfofjaaDoorDMac
import Derived.Test.YtfedlgcpgfofjaaDoorDTabs2
import Derived.Test.YtfedlgcpgfofjaaDoorPAllx4
namespace Go.Proofs.YtfedlgcpgfofjaaDoor.Sha
open Go.RowKit Go.Proofs.YtfedlgcpgfofjaaDoorW.PrintWords Go.Proofs.YtfedlgcpgfofjaaDoor.PAll Go.Proofs.YtfedlgcpgfofjaaDoor.Plain
set_option linter.unusedVariables false
theorem known_0 : Digs (sumOf []) ⟨#[101, 51, 98, 48, 99, 52, 52, 50, 57, 56, 102, 99, 49, 99, 49, 52, 57, 97, 102, 98, 102, 52, 99, 56, 57, 57, 54, 102, 98, 57, 50, 52, 50, 55, 97, 101, 52, 49, 101, 52, 54, 52, 57, 98, 57, 51, 52, 99, 97, 52, 57, 53, 57, 57, 49, 98, 55, 56, 53, 50, 98, 56, 53, 53]⟩ := ⟨sumOf_len _, 40, by kernel_rfl⟩
theorem known_1 : Digs (sumOf [97, 98, 99, 100, 98, 99, 100, 101, 99, 100, 101, 102, 100, 101, 102, 103, 101, 102, 103, 104, 102, 103, 104, 105, 103, 104, 105, 106, 104, 105, 106, 107, 105, 106, 107, 108, 106, 107, 108, 109, 107, 108, 109, 110, 108, 109, 110, 111, 109, 110, 111, 112, 110, 111, 112, 113]) ⟨#[50, 52, 56, 100, 54, 97, 54, 49, 100, 50, 48, 54, 51, 56, 98, 56, 101, 53, 99, 48, 50, 54, 57, 51, 48, 99, 51, 101, 54, 48, 51, 57, 97, 51, 51, 99, 101, 52, 53, 57, 54, 52, 102, 102, 50, 49, 54, 55, 102, 54, 101, 99, 101, 100, 100, 52, 49, 57, 100, 98, 48, 54, 99, 49]⟩ := ⟨sumOf_len _, 40, by kernel_rfl⟩
theorem known_2 : Digs (macOf [74, 101, 102, 101] [[119, 104, 97, 116, 32, 100, 111, 32, 121, 97, 32, 119, 97, 110, 116, 32, 102, 111, 114, 32, 110, 111, 116, 104, 105, 110, 103, 63]]) ⟨#[53, 98, 100, 99, 99, 49, 52, 54, 98, 102, 54, 48, 55, 53, 52, 101, 54, 97, 48, 52, 50, 52, 50, 54, 48, 56, 57, 53, 55, 53, 99, 55, 53, 97, 48, 48, 51, 102, 48, 56, 57, 100, 50, 55, 51, 57, 56, 51, 57, 100, 101, 99, 53, 56, 98, 57, 54, 52, 101, 99, 51, 56, 52, 51]⟩ := ⟨sumOf_len _, 40, by kernel_rfl⟩
theorem known_3 : Digs (macOf [107, 101, 121] [[84, 104, 101, 32, 113, 117, 105, 99, 107, 32, 98, 114, 111, 119, 110, 32, 102, 111, 120, 32], [106, 117, 109, 112, 115, 32, 111, 118, 101, 114, 32, 116, 104, 101, 32, 108, 97, 122, 121, 32, 100, 111, 103]]) ⟨#[102, 55, 98, 99, 56, 51, 102, 52, 51, 48, 53, 51, 56, 52, 50, 52, 98, 49, 51, 50, 57, 56, 101, 54, 97, 97, 54, 102, 98, 49, 52, 51, 101, 102, 52, 100, 53, 57, 97, 49, 52, 57, 52, 54, 49, 55, 53, 57, 57, 55, 52, 55, 57, 100, 98, 99, 50, 100, 49, 97, 51, 99, 100, 56]⟩ := ⟨sumOf_len _, 40, by kernel_rfl⟩
theorem known_4 : digest_Base64.f 10 [251, 255] = some ⟨#[45, 95, 56]⟩ := by kernel_rfl
/-- A row of slices that stand. -/
theorem CP.of {w : World} {g : Nat} (ps : List (List Nat)) (vs : List (Option Addr × Nat)) (n : Nat) (hn : n = ps.length) (hv : vs.length = ps.length) (hm : n ≤ 1000)
    (h : ∀ (j : Nat) (p : List Nat) (A : Option Addr) (c : Nat), ps[j]? = some p → vs[j]? = some (A, c) → p.length ≤ c ∧ C8 w A p.length p ∧ w.cell? ⟨g, j, none⟩ = some (.slice A p.length c)) : CP w (some ⟨g, 0, none⟩) n ps := by
  subst hn
  refine ⟨by simp, by omega, fun _ => ⟨_, rfl, fun j q hj => ?_⟩⟩
  rw [List.getElem?_map] at hj
  obtain ⟨p, hp, rfl⟩ := Option.map_eq_some_iff.1 hj
  have hlt := (List.getElem?_eq_some_iff.1 hp).1
  obtain ⟨⟨A, c⟩, hvj⟩ : ∃ v, vs[j]? = some v := ⟨_, List.getElem?_eq_getElem (by omega)⟩
  obtain ⟨h1, h2, h3⟩ := h j p A c hp hvj
  refine ⟨[.slice A p.length c], rfl, ⟨A, c, by rw [toI_len], by rw [toI_len]; exact h1, by rw [toI_len]; exact h2⟩, fun i u hu => ?_⟩
  rcases i with _ | i
  · obtain rfl := Option.some.inj hu
    rw [Addr.add_mid, show 0 + (j * (Kd.slice 5 (Kd.int IntKind.u8)).sz + 0) = j by show 0 + (j * 1 + 0) = j; omega]
    exact h3
  · simp at hu
theorem CP.one (w : World) (p : List Nat) (A : Option Addr) (c : Nat) (g : Nat) (hg : g = w.heap.size) (hc : p.length ≤ c) (h : C8 w A p.length p) : CP (w.alloc (.cells #[.slice A p.length c] 22)) (some ⟨g, 0, none⟩) 1 [p] := by
  subst hg
  refine CP.of [p] [(A, c)] 1 rfl rfl (by omega) (fun j q B d hj hv => ?_)
  rcases j with _ | j
  · obtain rfl := Option.some.inj hj
    have := Option.some.inj hv
    obtain ⟨rfl, rfl⟩ := Prod.mk.inj this
    exact ⟨hc, h.below ((Below.refl _ _).alloc (Nat.le_refl _) _), (Blk.new w 22 #[.slice A p.length c]).cell 0⟩
  · simp at hj
theorem CP.two (w : World) (p q : List Nat) (A B : Option Addr) (c d : Nat) (g : Nat) (hg : g = w.heap.size) (hc : p.length ≤ c) (h : C8 w A p.length p) (hd : q.length ≤ d) (h' : C8 w B q.length q) : CP (w.alloc (.cells #[.slice A p.length c, .slice B q.length d] 22)) (some ⟨g, 0, none⟩) 2 [p, q] := by
  subst hg
  refine CP.of [p, q] [(A, c), (B, d)] 2 rfl rfl (by omega) (fun j q' B' d' hj hv => ?_)
  rcases j with _ | _ | j
  · obtain rfl := Option.some.inj hj
    obtain ⟨rfl, rfl⟩ := Prod.mk.inj (Option.some.inj hv)
    exact ⟨hc, h.below ((Below.refl _ _).alloc (Nat.le_refl _) _), (Blk.new w 22 #[.slice A p.length c, .slice B q.length d]).cell 0⟩
  · obtain rfl := Option.some.inj hj
    obtain ⟨rfl, rfl⟩ := Prod.mk.inj (Option.some.inj hv)
    exact ⟨hd, h'.below ((Below.refl _ _).alloc (Nat.le_refl _) _), (Blk.new w 22 #[.slice A p.length c, .slice B q.length d]).cell 1⟩
  · simp at hj
end Go.Proofs.YtfedlgcpgfofjaaDoor.Sha
