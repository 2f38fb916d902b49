/- The end of a function behind a letter: so a long walk can be cut into lemmas ('as_aux_lemma'). -/
import Derived.Test.YtdmlefccajaniaaDoorBase
namespace Go.Proofs.YtdmlefccajaniaaDoor
theorem wp_var {P : Program} {c : Code} {Q : Exit → Act → World → Prop} {a : Act} {w : World} (h : ∀ Q0 : Exit → Act → World → Prop, (∀ e a w, Q e a w → Q0 e a w) → Code.wp P c Q0 a w) : Code.wp P c Q a w := h Q (fun _ _ _ h => h)
end Go.Proofs.YtdmlefccajaniaaDoor
