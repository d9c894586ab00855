/- Sizes of data,for the decoding of recursive types. -/
import Derived.Test.YtcbkkemcgcdhdaaGreatAbG1
namespace Go.Ab
open Go Go.RowKit
end Go.Ab
