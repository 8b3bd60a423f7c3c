import Derived.Test.YtgmibdiofkmmbaaGreatDoorA11
set_option linter.all false
namespace Go.Ab
open Go
end Go.Ab
