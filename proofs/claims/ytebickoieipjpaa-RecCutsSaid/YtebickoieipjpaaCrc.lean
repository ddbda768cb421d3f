import Derived.Test.YtebickoieipjpaaProg
import Derived.Test.YtebickoieipjpaaBase
namespace Go.Proofs.Ytebickoieipjpaa
open Go.RowKit Go.Gi
set_option maxRecDepth 20000

end Go.Proofs.Ytebickoieipjpaa
