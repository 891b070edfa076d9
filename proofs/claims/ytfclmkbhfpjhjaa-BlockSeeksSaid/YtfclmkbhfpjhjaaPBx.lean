-- PRINTED BY print.sh 35421559b90ae4d0a3588c463048766b98c2df88dd9212a6774a882060cdf62d: not written by this session
import Derived.Test.YtfclmkbhfpjhjaaPBx0
import Derived.Test.YtfclmkbhfpjhjaaPBx1
import Derived.Test.YtfclmkbhfpjhjaaPBx2
import Derived.Test.YtfclmkbhfpjhjaaPBx3
import Derived.Test.YtfclmkbhfpjhjaaPBx4
namespace Go.Proofs.Ytfclmkbhfpjhjaa.PB
open Go.RowKit Go.Proofs.YtfclmkbhfpjhjaaW.PrintWords Go.Proofs.YtfclmkbhfpjhjaaW.PrintLast Go.Proofs.YtfclmkbhfpjhjaaW.PrintMore
attribute [local go_sem] max2_int min2_int max_two min_two max_three min_three max_four min_four   -- for this text's walks alone
set_option linter.unusedVariables false
set_option linter.unusedSimpArgs false

end Go.Proofs.Ytfclmkbhfpjhjaa.PB
