/- The state of a law behind an append to a row of its own. -/
import Derived.Test.YtecbejmeejepmaaMem
namespace Go.Proofs.Ytecbejmeejepmaa
open Go.RowKit
section
variable {w W W' : World} {bs K : Nat} {H : Frz}
theorem Lw.grown (h : Lw w bs K H W) {row : Option Nat} (hg : W.grownBy W' row) (hr : ∀ g, row = some g → bs < g ∧ H g = none) : Lw w bs K H W' :=
  ⟨h.st.below ((Below.refl (bs + 1) W).grown hg h.lt (fun k hk => (hr k hk).1)), h.bel.grown hg h.bel.size (fun k hk => by have := (hr k hk).1; have := h.le; omega), h.le, h.fin.grown' hg (fun g hg => (hr g hg).2), h.apart⟩
end
end Go.Proofs.Ytecbejmeejepmaa
