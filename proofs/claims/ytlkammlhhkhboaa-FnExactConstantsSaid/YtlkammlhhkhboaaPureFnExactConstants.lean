/- FnExactConstants is true: each constant of the program has the reference's value. -/
import Derived.Test.YtlkammlhhkhboaaPAllx1
import Derived.Test.YtlkammlhhkhboaaBase
namespace Go.Proofs.Ytlkammlhhkhboaa.Pure
open Go.RowKit Go.Proofs.Ytlkammlhhkhboaa Go.Proofs.Ytlkammlhhkhboaa.PAll Go.Proofs.YtlkammlhhkhboaaW.PrintWords Go.Proofs.YtlkammlhhkhboaaW.PrintLast

theorem FnExactConstants : laws_FnExactConstants.Pure := rfl

end Go.Proofs.Ytlkammlhhkhboaa.Pure
