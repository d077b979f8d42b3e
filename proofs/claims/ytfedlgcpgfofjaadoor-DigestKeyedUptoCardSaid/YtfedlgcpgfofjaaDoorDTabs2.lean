/-
  The two tables of the program, as the rows list them that do not reach the reference's.
-/
import Derived.Test.YtfedlgcpgfofjaaDoorDTabs
namespace Go.Proofs.YtfedlgcpgfofjaaDoor.Sha
theorem tabsP_two {W : World} (h : laidMet Tryd.prog [("wicket/digest.roots", Rows.laid_wicket_digest_roots), ("wicket/digest.first", Rows.laid_wicket_digest_first)] W) : TabsP W := tabsP_of_laid h (by simp) (by simp)
end Go.Proofs.YtfedlgcpgfofjaaDoor.Sha
