-- TOLD BY wip/xprint.py of this repo (a program over the kit's printer): a contract of this seat's functions.
import Derived.Test.YtfemibdffapljaaPXx0
import Derived.Test.YtfemibdffapljaaPXx1
import Derived.Test.YtfemibdffapljaaPXx2
import Derived.Test.YtfemibdffapljaaPXx3
import Derived.Test.YtfemibdffapljaaPXx4
import Derived.Test.YtfemibdffapljaaPXx5
import Derived.Test.YtfemibdffapljaaPXx6
import Derived.Test.YtfemibdffapljaaPXx7
import Derived.Test.YtfemibdffapljaaPXx8
import Derived.Test.YtfemibdffapljaaPXx9
import Derived.Test.YtfemibdffapljaaPXx10
import Derived.Test.YtfemibdffapljaaPXx11
import Derived.Test.YtfemibdffapljaaPXx12
namespace Go.Proofs.Ytfemibdffapljaa.PX
open Go.RowKit Go.Proofs.YtfemibdffapljaaW.PrintWords Go.Proofs.YtfemibdffapljaaW.PrintLast Go.Proofs.YtfemibdffapljaaW.PrintMore
attribute [local go_sem] max2_int min2_int max_two min_two max_three min_three max_four min_four   -- for this text's walks alone
set_option linter.unusedVariables false
set_option linter.unusedSimpArgs false

end Go.Proofs.Ytfemibdffapljaa.PX
