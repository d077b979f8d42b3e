/-
  The tables as the row lists them: what of them the walks want.
-/
import Derived.Test.YtfedlgcpgfofjaaDoorDEq
import Derived.Test.YtfedlgcpgfofjaaDoorRows
import Derived.Lib.LaidTab
import Derived.Lib.LaidU8
namespace Go.Proofs.YtfedlgcpgfofjaaDoor.Sha
open Go.RowKit Go.Proofs.YtfedlgcpgfofjaaDoorW.PrintWords
set_option linter.unusedVariables false
theorem tab_of_reads {W : World} {name : String} {zs : List Nat} {g t n : Nat} {d : DataW Unit} (hd : d = Lib.tabData .u32 (toI zs)) (hg : Tryd.prog.globalNamed name = some g) (hty : (Tryd.prog.globals[g]?).map (·.type) = some t)
    (ht : Tryd.prog.underlying t = some (.array n 55)) (hct : Tryd.prog.cellsOf t = n) (h : Lib.VarReads Tryd.prog W name d) : ∀ j, j < zs.length → W.cell? ⟨g, j, none⟩ = some (v32 (zs.getD j 0)) := by
  obtain ⟨g', t', cs, fuel, p, hg', ht', hvar, hr⟩ := h
  obtain rfl := Option.some.inj (hg.symm.trans hg')
  obtain rfl := Option.some.inj (hty.symm.trans ht')
  rw [hd] at hr
  have hc := Lib.cells_of_tab ht Tryd.underlying55 (by kernel_rfl) hct hr
  have hT : Lib.TabIs Tryd.prog W name .u32 (toI zs) := by unfold Lib.TabIs; rw [hvar, ← hc]
  intro j hj
  have := hT.cell hg j (by rw [toI_len]; exact hj)
  rw [toI_getD] at this
  exact this
theorem tab1_of_laid {W : World} {l : List (String × DataW Unit)} (h : laidMet Tryd.prog l W) (hm : ("wicket/digest.roots", Rows.laid_wicket_digest_roots) ∈ l) : Tab1 W ∧ 1 < W.heap.size := by
  have h1 : Tab1 W := tab_of_reads (zs := roots) (by kernel_rfl) (by kernel_rfl) (by kernel_rfl) Tryd.underlying91 (by kernel_rfl) (Lib.laidMet.reads h hm)
  exact ⟨h1, block_lt_of_cell (a := ⟨1, 0, none⟩) (h1 0 (by decide))⟩
theorem tabF_of_laid {W : World} {l : List (String × DataW Unit)} (h : laidMet Tryd.prog l W) (hm : ("wicket/digest.first", Rows.laid_wicket_digest_first) ∈ l) : TabF W :=
  tab_of_reads (zs := first) (by kernel_rfl) (by kernel_rfl) (by kernel_rfl) Tryd.underlying73 (by kernel_rfl) (Lib.laidMet.reads h hm)
theorem tab2_of_laid {W : World} {l : List (String × DataW Unit)} (h : laidMet Tryd.prog l W) (hm : ("wicket/wicketref02.roots", Rows.laid_wicket_wicketref02_roots) ∈ l) : Tab2 W ∧ 2 < W.heap.size := by
  have h1 : Tab2 W := tab_of_reads (zs := roots) (by kernel_rfl) (by kernel_rfl) (by kernel_rfl) Tryd.underlying91 (by kernel_rfl) (Lib.laidMet.reads h hm)
  exact ⟨h1, block_lt_of_cell (a := ⟨2, 0, none⟩) (h1 0 (by decide))⟩
theorem tabs_of_laid {W : World} (h : laidMet Tryd.prog [("wicket/digest.roots", Rows.laid_wicket_digest_roots), ("wicket/digest.first", Rows.laid_wicket_digest_first), ("wicket/wicketref02.roots", Rows.laid_wicket_wicketref02_roots)] W) : Tabs W :=
  ⟨(tab1_of_laid h (by simp)).1, (tab2_of_laid h (by simp)).1, tabF_of_laid h (by simp), (tab2_of_laid h (by simp)).2⟩
/-- Without the reference's table. -/
def TabsP (w : World) : Prop := Tab1 w ∧ TabF w ∧ 1 < w.heap.size
theorem tabsP_of_laid {W : World} {l : List (String × DataW Unit)} (h : laidMet Tryd.prog l W) (h1 : ("wicket/digest.roots", Rows.laid_wicket_digest_roots) ∈ l) (h2 : ("wicket/digest.first", Rows.laid_wicket_digest_first) ∈ l) : TabsP W :=
  ⟨(tab1_of_laid h h1).1, tabF_of_laid h h2, (tab1_of_laid h h1).2⟩
theorem TabsP.below {w w' : World} (h : TabsP w) (hb : Below w.heap.size w w') : TabsP w' :=
  ⟨h.1.below hb (by have := h.2.2; omega), h.2.1.below hb (by have := h.2.2; omega), Nat.lt_of_lt_of_le h.2.2 hb.size⟩
end Go.Proofs.YtfedlgcpgfofjaaDoor.Sha
