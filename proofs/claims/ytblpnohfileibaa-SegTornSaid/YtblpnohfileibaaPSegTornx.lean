-- PRINTED BY print.sh 35421559b90ae4d0a3588c463048766b98c2df88dd9212a6774a882060cdf62d: not written by this session
import Derived.Test.YtblpnohfileibaaPSegTornx0
import Derived.Test.YtblpnohfileibaaPSegTornx1
import Derived.Test.YtblpnohfileibaaPSegTornx2
import Derived.Test.YtblpnohfileibaaPSegTornx3
import Derived.Test.YtblpnohfileibaaPSegTornx4
import Derived.Test.YtblpnohfileibaaPSegTornx5
import Derived.Test.YtblpnohfileibaaPSegTornx6
namespace Go.Proofs.Ytblpnohfileibaa.PSegTorn
open Go.RowKit Go.Proofs.YtblpnohfileibaaW.PrintWords Go.Proofs.YtblpnohfileibaaW.PrintLast Go.Proofs.YtblpnohfileibaaW.PrintMore
attribute [local go_sem] max2_int min2_int max_two min_two max_three min_three max_four min_four   -- for this text's walks alone
set_option linter.unusedVariables false
set_option linter.unusedSimpArgs false

end Go.Proofs.Ytblpnohfileibaa.PSegTorn
