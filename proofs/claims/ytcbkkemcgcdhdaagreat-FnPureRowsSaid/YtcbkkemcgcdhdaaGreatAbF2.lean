/- A row with room. -/
import Derived.Test.YtcbkkemcgcdhdaaGreatAbF0
namespace Go.Ab
def aL9 {α:Type} (k:Nat) (p:List α) (n:Int):Option (List α):=if p.length=0∧0≤n∧n≤140737488355328∧n * k≤140737488355328 then some [] else none
end Go.Ab
