/- few rows; small facts. -/
import Derived.Test.YtcofacgdijjnoaaGreatPbd
import Derived.Test.YtcofacgdijjnoaaGreatPbe
namespace Go.Proofs.YtcofacgdijjnoaaGreat
open PE (S31 S44 S49 k44 k49 k31)
open Go.RowKit Go.Shelf Go.Lib Go.Proofs.YtcofacgdijjnoaaGreatW.PrintWords Go.Proofs.YtcofacgdijjnoaaGreatW.PrintLast Go.Proofs.YtcofacgdijjnoaaGreatW.PrintMore
set_option linter.unusedVariables false
set_option linter.unusedSimpArgs false
set_option maxHeartbeats 8000000
set_option maxRecDepth 100000
theorem few_ok {s : Sh} (h : OkS s) : Few s := ⟨by have := h.wdn; omega, by have := h.htn; omega, by have := ok_num h; omega, by have := h.men; omega⟩
end Go.Proofs.YtcofacgdijjnoaaGreat
